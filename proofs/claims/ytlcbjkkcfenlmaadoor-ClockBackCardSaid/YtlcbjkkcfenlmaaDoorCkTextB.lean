import Derived.Test.YtlcbjkkcfenlmaaDoorCkTextA
import Derived.LaidMore
import Derived.LaidSub
import Derived.MakeChecks
import Derived.Lib.LaidTab
set_option linter.unusedVariables false
set_option linter.unusedSimpArgs false
namespace Go.Proofs.YtlcbjkkcfenlmaaDoor
open Go.RowKit
theorem rdigits_any (x c : Int) (w : World) (h0 : 0 ≤ x) (h1 : x ≤ 9223372036854775807) (c0 : 1 ≤ c) (c1 : c ≤ 20) :
    Calls Tryd.prog 48 #[.int .i64 x, .int .i64 c] w fun e w' => e = .returned (.string ⟨(Ck.dig x.toNat c.toNat).toArray⟩) ∧ Gr w w' := by
  obtain ⟨n, rfl⟩ := Int.eq_ofNat_of_zero_le h0
  obtain ⟨c, rfl⟩ := Int.eq_ofNat_of_zero_le (show 0 ≤ c by omega)
  exact rdigits_nat n c w (by omega) (by omega) (by omega)
set_option maxHeartbeats 400000 in
theorem rhours_any (s : Int) (w : World) (h0 : 0 ≤ s) (h1 : s < 86400) :
    Calls Tryd.prog 49 #[.int .i64 s] w fun e w' => e = .returned (.string ⟨(Ck.hrs s).toArray⟩) ∧ Gr w w' := by
  have l1 : (Ck.dig (s / 3600).toNat 2).length ≤ 2 := by rw [Ck.dig_len (by omega)]; omega
  have l2 : (Ck.dig (s / 60 % 60).toNat 2).length ≤ 2 := by rw [Ck.dig_len (by omega)]; omega
  have l3 : (Ck.dig (s % 60).toNat 2).length ≤ 2 := by rw [Ck.dig_len (by omega)]; omega
  have HH := Lib.hid (show Ck.hrs s = Ck.dig (s / 3600).toNat 2 ++ [58] ++ Ck.dig (s / 60 % 60).toNat 2 ++ [58] ++ Ck.dig (s % 60).toNat 2 from rfl)
  have H1 := Lib.hid (fun W => rdigits_any (s / 3600) 2 W (by omega) (by omega) (by omega) (by omega))
  have H2 := Lib.hid (fun W => rdigits_any (s / 60 % 60) 2 W (by omega) (by omega) (by omega) (by omega))
  have H3 := Lib.hid (fun W => rdigits_any (s % 60) 2 W (by omega) (by omega) (by omega) (by omega))
  have e2 : (2 : Int).toNat = 2 := rfl
  rw [e2] at H1 H2 H3
  clear e2
  generalize Ck.dig (s / 3600).toNat 2 = a at *
  generalize Ck.dig (s / 60 % 60).toNat 2 = b at *
  generalize Ck.dig (s % 60).toNat 2 = c at *
  go_enter Tryd.func49, Tryd.ntmps49
  go_wp2_with fail; refine (H1.out _).mono ?_; rintro e w1 ⟨rfl, hb1⟩; obtain ⟨hc1, hf1⟩ := Gr.cells hb1; have hz1 := Gr.size hb1; (try simp at hz1); (try have hy1_0 : w.heap.size < w1.heap.size := by omega); (try have hy1_1 : w.heap.size + 1 < w1.heap.size := by omega); (try have hy1_2 : w.heap.size + 1 + 1 < w1.heap.size := by omega); (try have hy1_3 : w.heap.size + 1 + 1 + 1 < w1.heap.size := by omega); (try have hy1_4 : w.heap.size + 1 + 1 + 1 + 1 < w1.heap.size := by omega); (try have hy1_5 : w.heap.size + 1 + 1 + 1 + 1 + 1 < w1.heap.size := by omega)
  go_wp2_with fail; refine (H2.out _).mono ?_; rintro e w2 ⟨rfl, hb2⟩; obtain ⟨hc2, hf2⟩ := Gr.cells hb2; have hz2 := Gr.size hb2; (try simp at hz2); (try have hy2_0 : w.heap.size < w2.heap.size := by omega); (try have hy2_1 : w.heap.size + 1 < w2.heap.size := by omega); (try have hy2_2 : w.heap.size + 1 + 1 < w2.heap.size := by omega); (try have hy2_3 : w.heap.size + 1 + 1 + 1 < w2.heap.size := by omega); (try have hy2_4 : w.heap.size + 1 + 1 + 1 + 1 < w2.heap.size := by omega); (try have hy2_5 : w.heap.size + 1 + 1 + 1 + 1 + 1 < w2.heap.size := by omega); (try have hy2_1_0 : w1.heap.size < w2.heap.size := by omega); (try have hy2_1_1 : w1.heap.size + 1 < w2.heap.size := by omega)
  go_wp2_with fail; refine (H3.out _).mono ?_; rintro e w3 ⟨rfl, hb3⟩; obtain ⟨hc3, hf3⟩ := Gr.cells hb3; have hz3 := Gr.size hb3; (try simp at hz3); (try have hy3_0 : w.heap.size < w3.heap.size := by omega); (try have hy3_1 : w.heap.size + 1 < w3.heap.size := by omega); (try have hy3_2 : w.heap.size + 1 + 1 < w3.heap.size := by omega); (try have hy3_3 : w.heap.size + 1 + 1 + 1 < w3.heap.size := by omega); (try have hy3_4 : w.heap.size + 1 + 1 + 1 + 1 < w3.heap.size := by omega); (try have hy3_5 : w.heap.size + 1 + 1 + 1 + 1 + 1 < w3.heap.size := by omega); (try have hy3_1_0 : w1.heap.size < w3.heap.size := by omega); (try have hy3_1_1 : w1.heap.size + 1 < w3.heap.size := by omega); (try have hy3_2_0 : w2.heap.size < w3.heap.size := by omega); (try have hy3_2_1 : w2.heap.size + 1 < w3.heap.size := by omega)
  go_wp2
  go_ret
  refine ⟨?_, (by repeat' (first | (with_reducible exact Gr.refl _) | (with_reducible assumption) | (with_reducible refine Gr.alloc ?_ _) | (with_reducible refine Gr.drew ?_) | (with_reducible refine Gr.drewN ?_ _) | (with_reducible refine Gr.setCell ?_ ?_ _) | (with_reducible refine Gr.trans ?_ (by with_reducible assumption)) | go_size))⟩
  rw [HH.out, ← bytes_app, ← bytes_app, ← bytes_app, ← bytes_app]
  rfl
theorem Ck.dig_one (n : Nat) : Ck.dig n 1 = Lib.decDigits n := by
  unfold Ck.dig
  have := Dg.nDigits_pos n
  rw [Lib.decDigits_length, show 1 - Lib.nDigits n = 0 by omega]; rfl
set_option maxHeartbeats 400000 in
theorem rduration_any (x : Int) (w : World) (h0 : 0 ≤ x) (h1 : x ≤ 68719476736) :
    Calls Tryd.prog 34 #[.int .i64 x] w fun e w' => e = .returned (.string ⟨(Ck.dur x).toArray⟩) ∧ Gr w w' := by
  by_cases hx : x < 86400
  · have HD := Lib.hid (show Ck.dur x = Ck.hrs x by unfold Ck.dur; rw [if_pos hx])
    have t3 : decide (x < 86400) = true := decide_eq_true hx
    have H1 := Lib.hid (fun W => rhours_any x W h0 hx)
    generalize Ck.hrs x = a at *
    go_enter Tryd.func34, Tryd.ntmps34
    go_wp2_with fail; refine (H1.out _).mono ?_; rintro e w1 ⟨rfl, hb1⟩; obtain ⟨hc1, hf1⟩ := Gr.cells hb1; have hz1 := Gr.size hb1; (try simp at hz1); (try have hy1_0 : w.heap.size < w1.heap.size := by omega); (try have hy1_1 : w.heap.size + 1 < w1.heap.size := by omega); (try have hy1_2 : w.heap.size + 1 + 1 < w1.heap.size := by omega); (try have hy1_3 : w.heap.size + 1 + 1 + 1 < w1.heap.size := by omega); (try have hy1_4 : w.heap.size + 1 + 1 + 1 + 1 < w1.heap.size := by omega); (try have hy1_5 : w.heap.size + 1 + 1 + 1 + 1 + 1 < w1.heap.size := by omega)
    go_wp2
    go_ret
    exact ⟨str_eq (by rw [HD.out]), (by repeat' (first | (with_reducible exact Gr.refl _) | (with_reducible assumption) | (with_reducible refine Gr.alloc ?_ _) | (with_reducible refine Gr.drew ?_) | (with_reducible refine Gr.drewN ?_ _) | (with_reducible refine Gr.setCell ?_ ?_ _) | (with_reducible refine Gr.trans ?_ (by with_reducible assumption)) | go_size))⟩
  · have HD := Lib.hid (show Ck.dur x = Lib.decDigits (x / 86400).toNat ++ [100, 32] ++ Ck.hrs (x % 86400) by unfold Ck.dur; rw [if_neg hx])
    have t3 : decide (x < 86400) = false := decide_eq_false hx
    have l1 : (Ck.hrs (x % 86400)).length ≤ 8 := by rw [Ck.hrs_len (by omega) (by omega)]; omega
    have l2 : (Lib.decDigits (x / 86400).toNat).length ≤ 19 := Ck.dec_le (by omega)
    have H1 := Lib.hid (fun W => rhours_any (x % 86400) W (by omega) (by omega))
    have h2 := fun W => rdigits_any (x / 86400) 1 W (by omega) (by omega) (by omega) (by omega)
    rw [show (1 : Int).toNat = 1 from rfl, Ck.dig_one] at h2
    have H2 := Lib.hid h2
    clear hx h2
    generalize Ck.hrs (x % 86400) = a at *
    generalize Lib.decDigits (x / 86400).toNat = b at *
    go_enter Tryd.func34, Tryd.ntmps34
    go_wp2_with fail; refine (H2.out _).mono ?_; rintro e w1 ⟨rfl, hb1⟩; obtain ⟨hc1, hf1⟩ := Gr.cells hb1; have hz1 := Gr.size hb1; (try simp at hz1); (try have hy1_0 : w.heap.size < w1.heap.size := by omega); (try have hy1_1 : w.heap.size + 1 < w1.heap.size := by omega); (try have hy1_2 : w.heap.size + 1 + 1 < w1.heap.size := by omega); (try have hy1_3 : w.heap.size + 1 + 1 + 1 < w1.heap.size := by omega); (try have hy1_4 : w.heap.size + 1 + 1 + 1 + 1 < w1.heap.size := by omega); (try have hy1_5 : w.heap.size + 1 + 1 + 1 + 1 + 1 < w1.heap.size := by omega)
    go_wp2_with fail; refine (H1.out _).mono ?_; rintro e w2 ⟨rfl, hb2⟩; obtain ⟨hc2, hf2⟩ := Gr.cells hb2; have hz2 := Gr.size hb2; (try simp at hz2); (try have hy2_0 : w.heap.size < w2.heap.size := by omega); (try have hy2_1 : w.heap.size + 1 < w2.heap.size := by omega); (try have hy2_2 : w.heap.size + 1 + 1 < w2.heap.size := by omega); (try have hy2_3 : w.heap.size + 1 + 1 + 1 < w2.heap.size := by omega); (try have hy2_4 : w.heap.size + 1 + 1 + 1 + 1 < w2.heap.size := by omega); (try have hy2_5 : w.heap.size + 1 + 1 + 1 + 1 + 1 < w2.heap.size := by omega); (try have hy2_1_0 : w1.heap.size < w2.heap.size := by omega); (try have hy2_1_1 : w1.heap.size + 1 < w2.heap.size := by omega)
    go_wp2
    go_ret
    exact ⟨(congrArg (fun z => Ending.returned (Value.string z)) (by rw [HD.out, ← bytes_app, ← bytes_app])), (by repeat' (first | (with_reducible exact Gr.refl _) | (with_reducible assumption) | (with_reducible refine Gr.alloc ?_ _) | (with_reducible refine Gr.drew ?_) | (with_reducible refine Gr.drewN ?_ _) | (with_reducible refine Gr.setCell ?_ ?_ _) | (with_reducible refine Gr.trans ?_ (by with_reducible assumption)) | go_size))⟩
theorem Rows.laid_pow : (Rows.laid_internal_strconv_uint64pow10 : DataW Unit) = Lib.tabData .u64 Lib.pow10Tab := by kernel_rfl
theorem tab_of_laid {W : World} (h : laidMetH Tryd.prog Rows.clockApartRow.laid W) : Tab W := by
  have h1 := laidMetH.filter (fun x => x.1 == "internal/strconv.uint64pow10") h
  have e : (Rows.clockApartRow.laid.filter fun x => x.1 == "internal/strconv.uint64pow10") = [("internal/strconv.uint64pow10", Lib.tabData .u64 Lib.pow10Tab)] := by rw [← Rows.laid_pow]; rfl
  rw [e, MakeChecks.laidMetH_plain _ _ _ (by kernel_rfl)] at h1
  exact Lib.tabIs_of_head (g := 0) (by kernel_rfl) (by kernel_rfl) Tryd.underlying98 Tryd.underlying86 (by kernel_rfl) (by kernel_rfl) h1
end Go.Proofs.YtlcbjkkcfenlmaaDoor
