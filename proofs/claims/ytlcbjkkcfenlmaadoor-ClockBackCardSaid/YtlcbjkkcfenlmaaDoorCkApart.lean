import Derived.Test.YtlcbjkkcfenlmaaDoorCkTextC
set_option linter.unusedVariables false
set_option linter.unusedSimpArgs false
namespace Go.Proofs.YtlcbjkkcfenlmaaDoor
open Go.RowKit
namespace Ck
theorem dig_two {n : Nat} (h : n < 100) : dig n 2 = Dg.pd n 2 := Dg.dig_pad (by omega) (by omega)
theorem hrs_pd {s : Int} (h0 : 0 ≤ s) (h1 : s < 86400) : hrs s = Dg.pd (s / 3600).toNat 2 ++ ([58] ++ (Dg.pd (s / 60 % 60).toNat 2 ++ ([58] ++ Dg.pd (s % 60).toNat 2))) := by
  unfold hrs; rw [dig_two (by omega), dig_two (by omega), dig_two (by omega)]; simp only [List.append_assoc]
theorem hrs_inj {s t : Int} (s0 : 0 ≤ s) (s1 : s < 86400) (t0 : 0 ≤ t) (t1 : t < 86400) (h : hrs s = hrs t) : s = t := by
  rw [hrs_pd s0 s1, hrs_pd t0 t1] at h
  obtain ⟨h1, h⟩ := List.append_inj h (by rw [Dg.pd_len, Dg.pd_len])
  obtain ⟨_, h⟩ := List.append_inj h rfl
  obtain ⟨h2, h⟩ := List.append_inj h (by rw [Dg.pd_len, Dg.pd_len])
  obtain ⟨_, h3⟩ := List.append_inj h rfl
  have a := Dg.pd_inj (by omega) (by omega) h1
  have b := Dg.pd_inj (by omega) (by omega) h2
  have c := Dg.pd_inj (by omega) (by omega) h3
  omega
/-- What stands ahead of the time of day. -/
def days (x : Int) : List UInt8 := if x < 86400 then [] else Lib.decDigits (x / 86400).toNat ++ [100, 32]
theorem dur_split {x : Int} (h0 : 0 ≤ x) : dur x = days x ++ hrs (x % 86400) := by
  unfold dur days
  by_cases h : x < 86400
  · rw [if_pos h, if_pos h, Int.emod_eq_of_lt h0 h]; rfl
  · rw [if_neg h, if_neg h]
theorem hrs_len' {x : Int} : (hrs (x % 86400)).length = 8 := hrs_len (by omega) (by omega)
theorem dur_len {x : Int} (h0 : 0 ≤ x) : (dur x).length = (days x).length + 8 := by rw [dur_split h0, List.length_append, hrs_len']
theorem dur_last {x : Int} (h0 : 0 ≤ x) : (dur x).drop ((dur x).length - 8) = hrs (x % 86400) := by
  rw [dur_len h0, Nat.add_sub_cancel, dur_split h0, List.drop_left' rfl]
theorem days_inj {s t : Int} (s0 : 0 ≤ s) (t0 : 0 ≤ t) (h : days s = days t) : s / 86400 = t / 86400 := by
  unfold days at h
  by_cases a : s < 86400 <;> by_cases b : t < 86400
  · omega
  · rw [if_pos a, if_neg b] at h; have := congrArg List.length h; simp at this
  · rw [if_neg a, if_pos b] at h; have := congrArg List.length h; simp at this
  · rw [if_neg a, if_neg b] at h
    have := Dg.dec_inj (List.append_cancel_right h)
    omega
theorem dur_inj {s t : Int} (s0 : 0 ≤ s) (t0 : 0 ≤ t) (h : dur s = dur t) : s = t := by
  rw [dur_split s0, dur_split t0] at h
  obtain ⟨h1, h2⟩ := List.append_inj' h (by rw [hrs_len', hrs_len'])
  have a := days_inj s0 t0 h1
  have b := hrs_inj (by omega) (by omega) (by omega) (by omega) h2
  omega
theorem dur_same {s t : Int} (s0 : 0 ≤ s) (t0 : 0 ≤ t) : ((dur s).drop ((dur s).length - 8) = (dur t).drop ((dur t).length - 8)) ↔ (s - t).tmod 86400 = 0 := by
  rw [dur_last s0, dur_last t0]
  have e : (s - t).tmod 86400 = 0 ↔ (86400 : Int) ∣ (s - t) := ⟨Int.dvd_of_tmod_eq_zero, Int.tmod_eq_zero_of_dvd⟩
  rw [e]
  constructor
  · intro h
    have := hrs_inj (by omega) (by omega) (by omega) (by omega) h
    omega
  · intro h
    have : s % 86400 = t % 86400 := by omega
    rw [this]
end Ck
set_option maxHeartbeats 400000 in
theorem apart_ok (s t : Int) (w : World) (s0 : 0 ≤ s) (s1 : s ≤ 68719476736) (t0 : 0 ≤ t) (t1 : t ≤ 68719476736) (ht : Tab w) :
    Calls Tryd.prog 5 #[.int .i64 s, .int .i64 t] w fun e w' => e = .returned (.bool true) ∧ Gr w w' := by
  have HS := Lib.hid (fun W (h : Gr w W) => duration_any s W s0 s1 (Or.inr (ht.gr h)))
  have HT := Lib.hid (fun W (h : Gr w W) => duration_any t W t0 t1 (Or.inr (ht.gr h)))
  have hI := @Ck.dur_inj s t s0 t0
  have HM := Lib.hid (Ck.dur_same s0 t0)
  have l1 : 8 ≤ (Ck.dur s).length := by rw [Ck.dur_len s0]; omega
  have l2 : 8 ≤ (Ck.dur t).length := by rw [Ck.dur_len t0]; omega
  have l3 : (Ck.dur s).length ≤ 40 := by
    rw [Ck.dur_len s0]; unfold Ck.days; split
    · simp
    · have := Ck.dec_le (n := (s / 86400).toNat) (by omega); simp; omega
  have l4 : (Ck.dur t).length ≤ 40 := by
    rw [Ck.dur_len t0]; unfold Ck.days; split
    · simp
    · have := Ck.dec_le (n := (t / 86400).toNat) (by omega); simp; omega
  by_cases hst : s = t
  · subst hst
    clear hI HT t0 t1 l2 l4
    generalize Ck.dur s = a at *
    go_enter Tryd.func5, Tryd.ntmps5
    go_wp2_with fail; refine (awake_any _).mono ?_; rintro e w1 ⟨rfl, hb1⟩; obtain ⟨hc1, hf1⟩ := Gr.cells hb1; have hz1 := Gr.size hb1; (try simp at hz1); (try have hy1_0 : w.heap.size < w1.heap.size := by omega); (try have hy1_1 : w.heap.size + 1 < w1.heap.size := by omega); (try have hy1_2 : w.heap.size + 1 + 1 < w1.heap.size := by omega); (try have hy1_3 : w.heap.size + 1 + 1 + 1 < w1.heap.size := by omega); (try have hy1_4 : w.heap.size + 1 + 1 + 1 + 1 < w1.heap.size := by omega); (try have hy1_5 : w.heap.size + 1 + 1 + 1 + 1 + 1 < w1.heap.size := by omega)
    go_wp2_with fail; refine (HS.out _ (by repeat' (first | (with_reducible exact Gr.refl _) | (with_reducible assumption) | (with_reducible refine Gr.alloc ?_ _) | (with_reducible refine Gr.drew ?_) | (with_reducible refine Gr.drewN ?_ _) | (with_reducible refine Gr.setCell ?_ ?_ _) | (with_reducible refine Gr.trans ?_ (by with_reducible assumption)) | go_size))).mono ?_; rintro e w2 ⟨rfl, hb2⟩; obtain ⟨hc2, hf2⟩ := Gr.cells hb2; have hz2 := Gr.size hb2; (try simp at hz2); (try have hy2_0 : w.heap.size < w2.heap.size := by omega); (try have hy2_1 : w.heap.size + 1 < w2.heap.size := by omega); (try have hy2_2 : w.heap.size + 1 + 1 < w2.heap.size := by omega); (try have hy2_3 : w.heap.size + 1 + 1 + 1 < w2.heap.size := by omega); (try have hy2_4 : w.heap.size + 1 + 1 + 1 + 1 < w2.heap.size := by omega); (try have hy2_5 : w.heap.size + 1 + 1 + 1 + 1 + 1 < w2.heap.size := by omega); (try have hy2_1_0 : w1.heap.size < w2.heap.size := by omega); (try have hy2_1_1 : w1.heap.size + 1 < w2.heap.size := by omega)
    go_wp2_with fail; refine (HS.out _ (by repeat' (first | (with_reducible exact Gr.refl _) | (with_reducible assumption) | (with_reducible refine Gr.alloc ?_ _) | (with_reducible refine Gr.drew ?_) | (with_reducible refine Gr.drewN ?_ _) | (with_reducible refine Gr.setCell ?_ ?_ _) | (with_reducible refine Gr.trans ?_ (by with_reducible assumption)) | go_size))).mono ?_; rintro e w3 ⟨rfl, hb3⟩; obtain ⟨hc3, hf3⟩ := Gr.cells hb3; have hz3 := Gr.size hb3; (try simp at hz3); (try have hy3_0 : w.heap.size < w3.heap.size := by omega); (try have hy3_1 : w.heap.size + 1 < w3.heap.size := by omega); (try have hy3_2 : w.heap.size + 1 + 1 < w3.heap.size := by omega); (try have hy3_3 : w.heap.size + 1 + 1 + 1 < w3.heap.size := by omega); (try have hy3_4 : w.heap.size + 1 + 1 + 1 + 1 < w3.heap.size := by omega); (try have hy3_5 : w.heap.size + 1 + 1 + 1 + 1 + 1 < w3.heap.size := by omega); (try have hy3_1_0 : w1.heap.size < w3.heap.size := by omega); (try have hy3_1_1 : w1.heap.size + 1 < w3.heap.size := by omega); (try have hy3_2_0 : w2.heap.size < w3.heap.size := by omega); (try have hy3_2_1 : w2.heap.size + 1 < w3.heap.size := by omega)
    go_wp2_with fail
    go_quiet (fail)
    go_wp2
    go_ret
    exact ⟨rfl, (by repeat' (first | (with_reducible exact Gr.refl _) | (with_reducible assumption) | (with_reducible refine Gr.alloc ?_ _) | (with_reducible refine Gr.drew ?_) | (with_reducible refine Gr.drewN ?_ _) | (with_reducible refine Gr.setCell ?_ ?_ _) | (with_reducible refine Gr.trans ?_ (by with_reducible assumption)) | go_size))⟩
  · have e1 : (s == t) = false := beq_eq_false_iff_ne.2 hst
    have e2 : (Ck.dur s == Ck.dur t) = false := beq_eq_false_iff_ne.2 fun h => hst (hI h)
    have x1 : IntKind.i64.wrap (((Ck.dur s).length : Int) - 8) = ((Ck.dur s).length : Int) - 8 := IntWalk.i64_in _ (by omega)
    have x2 : IntKind.i64.wrap (((Ck.dur t).length : Int) - 8) = ((Ck.dur t).length : Int) - 8 := IntWalk.i64_in _ (by omega)
    have x3 : IntKind.i64.wrap (s - t) = s - t := IntWalk.i64_in _ (by omega)
    clear hI hst
    generalize Ck.dur s = a at *
    generalize Ck.dur t = b at *
    go_enter Tryd.func5, Tryd.ntmps5
    go_wp2_with fail; refine (awake_any _).mono ?_; rintro e w1 ⟨rfl, hb1⟩; obtain ⟨hc1, hf1⟩ := Gr.cells hb1; have hz1 := Gr.size hb1; (try simp at hz1); (try have hy1_0 : w.heap.size < w1.heap.size := by omega); (try have hy1_1 : w.heap.size + 1 < w1.heap.size := by omega); (try have hy1_2 : w.heap.size + 1 + 1 < w1.heap.size := by omega); (try have hy1_3 : w.heap.size + 1 + 1 + 1 < w1.heap.size := by omega); (try have hy1_4 : w.heap.size + 1 + 1 + 1 + 1 < w1.heap.size := by omega); (try have hy1_5 : w.heap.size + 1 + 1 + 1 + 1 + 1 < w1.heap.size := by omega)
    go_wp2_with fail; refine (HS.out _ (by repeat' (first | (with_reducible exact Gr.refl _) | (with_reducible assumption) | (with_reducible refine Gr.alloc ?_ _) | (with_reducible refine Gr.drew ?_) | (with_reducible refine Gr.drewN ?_ _) | (with_reducible refine Gr.setCell ?_ ?_ _) | (with_reducible refine Gr.trans ?_ (by with_reducible assumption)) | go_size))).mono ?_; rintro e w2 ⟨rfl, hb2⟩; obtain ⟨hc2, hf2⟩ := Gr.cells hb2; have hz2 := Gr.size hb2; (try simp at hz2); (try have hy2_0 : w.heap.size < w2.heap.size := by omega); (try have hy2_1 : w.heap.size + 1 < w2.heap.size := by omega); (try have hy2_2 : w.heap.size + 1 + 1 < w2.heap.size := by omega); (try have hy2_3 : w.heap.size + 1 + 1 + 1 < w2.heap.size := by omega); (try have hy2_4 : w.heap.size + 1 + 1 + 1 + 1 < w2.heap.size := by omega); (try have hy2_5 : w.heap.size + 1 + 1 + 1 + 1 + 1 < w2.heap.size := by omega); (try have hy2_1_0 : w1.heap.size < w2.heap.size := by omega); (try have hy2_1_1 : w1.heap.size + 1 < w2.heap.size := by omega)
    go_wp2_with fail; refine (HT.out _ (by repeat' (first | (with_reducible exact Gr.refl _) | (with_reducible assumption) | (with_reducible refine Gr.alloc ?_ _) | (with_reducible refine Gr.drew ?_) | (with_reducible refine Gr.drewN ?_ _) | (with_reducible refine Gr.setCell ?_ ?_ _) | (with_reducible refine Gr.trans ?_ (by with_reducible assumption)) | go_size))).mono ?_; rintro e w3 ⟨rfl, hb3⟩; obtain ⟨hc3, hf3⟩ := Gr.cells hb3; have hz3 := Gr.size hb3; (try simp at hz3); (try have hy3_0 : w.heap.size < w3.heap.size := by omega); (try have hy3_1 : w.heap.size + 1 < w3.heap.size := by omega); (try have hy3_2 : w.heap.size + 1 + 1 < w3.heap.size := by omega); (try have hy3_3 : w.heap.size + 1 + 1 + 1 < w3.heap.size := by omega); (try have hy3_4 : w.heap.size + 1 + 1 + 1 + 1 < w3.heap.size := by omega); (try have hy3_5 : w.heap.size + 1 + 1 + 1 + 1 + 1 < w3.heap.size := by omega); (try have hy3_1_0 : w1.heap.size < w3.heap.size := by omega); (try have hy3_1_1 : w1.heap.size + 1 < w3.heap.size := by omega); (try have hy3_2_0 : w2.heap.size < w3.heap.size := by omega); (try have hy3_2_1 : w2.heap.size + 1 < w3.heap.size := by omega)
    go_wp2_with fail
    go_quiet (fail)
    go_wp2
    go_ret
    refine ⟨ret_bool ?_, (by repeat' (first | (with_reducible exact Gr.refl _) | (with_reducible assumption) | (with_reducible refine Gr.alloc ?_ _) | (with_reducible refine Gr.drew ?_) | (with_reducible refine Gr.drewN ?_ _) | (with_reducible refine Gr.setCell ?_ ?_ _) | (with_reducible refine Gr.trans ?_ (by with_reducible assumption)) | go_size))⟩
    have f1 : ((⟨a.toArray⟩ : ByteArray).extract (a.length - 8) a.length).toList = a.drop (a.length - 8) := by
      rw [Lib.extract_toList]; exact List.take_of_length_le (by simp)
    have f2 : ((⟨b.toArray⟩ : ByteArray).extract (b.length - 8) b.length).toList = b.drop (b.length - 8) := by
      rw [Lib.extract_toList]; exact List.take_of_length_le (by simp)
    rw [f1, f2]
    have hm := HM.out
    by_cases hz : (s - t).tmod 86400 = 0
    · rw [beq_iff_eq.2 (hm.2 hz), beq_iff_eq.2 hz]; rfl
    · rw [beq_eq_false_iff_ne.2 fun h => hz (hm.1 h), beq_eq_false_iff_ne.2 hz]; rfl
set_option maxHeartbeats 400000 in
theorem apart_one (s t q : Int) (b : ByteArray) (w : World) (HS : ∀ W, Gr w W → Calls Tryd.prog 18 #[.int .i64 s] W fun e w' => e = .returned (.tuple #[.string ⟨#[]⟩, .int .i64 2]) ∧ Gr W w') (HT : ∀ W, Gr w W → Calls Tryd.prog 18 #[.int .i64 t] W fun e w' => e = .returned (.tuple #[.string b, .int .i64 q]) ∧ Gr W w') :
    Calls Tryd.prog 5 #[.int .i64 s, .int .i64 t] w fun e w' => e = .returned (.bool true) ∧ Gr w w' := by
  have HS := Lib.hid HS; have HT := Lib.hid HT
  go_enter Tryd.func5, Tryd.ntmps5
  go_wp2_with fail; refine (awake_any _).mono ?_; rintro e w1 ⟨rfl, hb1⟩; obtain ⟨hc1, hf1⟩ := Gr.cells hb1; have hz1 := Gr.size hb1; (try simp at hz1); (try have hy1_0 : w.heap.size < w1.heap.size := by omega); (try have hy1_1 : w.heap.size + 1 < w1.heap.size := by omega); (try have hy1_2 : w.heap.size + 1 + 1 < w1.heap.size := by omega); (try have hy1_3 : w.heap.size + 1 + 1 + 1 < w1.heap.size := by omega); (try have hy1_4 : w.heap.size + 1 + 1 + 1 + 1 < w1.heap.size := by omega); (try have hy1_5 : w.heap.size + 1 + 1 + 1 + 1 + 1 < w1.heap.size := by omega)
  go_wp2_with fail; refine (HS.out _ (by repeat' (first | (with_reducible exact Gr.refl _) | (with_reducible assumption) | (with_reducible refine Gr.alloc ?_ _) | (with_reducible refine Gr.drew ?_) | (with_reducible refine Gr.drewN ?_ _) | (with_reducible refine Gr.setCell ?_ ?_ _) | (with_reducible refine Gr.trans ?_ (by with_reducible assumption)) | go_size))).mono ?_; rintro e w2 ⟨rfl, hb2⟩; obtain ⟨hc2, hf2⟩ := Gr.cells hb2; have hz2 := Gr.size hb2; (try simp at hz2); (try have hy2_0 : w.heap.size < w2.heap.size := by omega); (try have hy2_1 : w.heap.size + 1 < w2.heap.size := by omega); (try have hy2_2 : w.heap.size + 1 + 1 < w2.heap.size := by omega); (try have hy2_3 : w.heap.size + 1 + 1 + 1 < w2.heap.size := by omega); (try have hy2_4 : w.heap.size + 1 + 1 + 1 + 1 < w2.heap.size := by omega); (try have hy2_5 : w.heap.size + 1 + 1 + 1 + 1 + 1 < w2.heap.size := by omega); (try have hy2_1_0 : w1.heap.size < w2.heap.size := by omega); (try have hy2_1_1 : w1.heap.size + 1 < w2.heap.size := by omega)
  go_wp2_with fail; refine (HT.out _ (by repeat' (first | (with_reducible exact Gr.refl _) | (with_reducible assumption) | (with_reducible refine Gr.alloc ?_ _) | (with_reducible refine Gr.drew ?_) | (with_reducible refine Gr.drewN ?_ _) | (with_reducible refine Gr.setCell ?_ ?_ _) | (with_reducible refine Gr.trans ?_ (by with_reducible assumption)) | go_size))).mono ?_; rintro e w3 ⟨rfl, hb3⟩; obtain ⟨hc3, hf3⟩ := Gr.cells hb3; have hz3 := Gr.size hb3; (try simp at hz3); (try have hy3_0 : w.heap.size < w3.heap.size := by omega); (try have hy3_1 : w.heap.size + 1 < w3.heap.size := by omega); (try have hy3_2 : w.heap.size + 1 + 1 < w3.heap.size := by omega); (try have hy3_3 : w.heap.size + 1 + 1 + 1 < w3.heap.size := by omega); (try have hy3_4 : w.heap.size + 1 + 1 + 1 + 1 < w3.heap.size := by omega); (try have hy3_5 : w.heap.size + 1 + 1 + 1 + 1 + 1 < w3.heap.size := by omega); (try have hy3_1_0 : w1.heap.size < w3.heap.size := by omega); (try have hy3_1_1 : w1.heap.size + 1 < w3.heap.size := by omega); (try have hy3_2_0 : w2.heap.size < w3.heap.size := by omega); (try have hy3_2_1 : w2.heap.size + 1 < w3.heap.size := by omega)
  go_wp2
  go_ret
  exact ⟨rfl, (by repeat' (first | (with_reducible exact Gr.refl _) | (with_reducible assumption) | (with_reducible refine Gr.alloc ?_ _) | (with_reducible refine Gr.drew ?_) | (with_reducible refine Gr.drewN ?_ _) | (with_reducible refine Gr.setCell ?_ ?_ _) | (with_reducible refine Gr.trans ?_ (by with_reducible assumption)) | go_size))⟩
set_option maxHeartbeats 400000 in
theorem apart_two (s t : Int) (a : List UInt8) (w : World) (hn : a.isEmpty = false) (HS : ∀ W, Gr w W → Calls Tryd.prog 18 #[.int .i64 s] W fun e w' => e = .returned (.tuple #[.string ⟨a.toArray⟩, .int .i64 0]) ∧ Gr W w') (HT : ∀ W, Gr w W → Calls Tryd.prog 18 #[.int .i64 t] W fun e w' => e = .returned (.tuple #[.string ⟨#[]⟩, .int .i64 2]) ∧ Gr W w') :
    Calls Tryd.prog 5 #[.int .i64 s, .int .i64 t] w fun e w' => e = .returned (.bool true) ∧ Gr w w' := by
  have HS := Lib.hid HS; have HT := Lib.hid HT
  have hn2 : (a == []) = false := by cases a <;> simp at hn ⊢
  go_enter Tryd.func5, Tryd.ntmps5
  go_wp2_with fail; refine (awake_any _).mono ?_; rintro e w1 ⟨rfl, hb1⟩; obtain ⟨hc1, hf1⟩ := Gr.cells hb1; have hz1 := Gr.size hb1; (try simp at hz1); (try have hy1_0 : w.heap.size < w1.heap.size := by omega); (try have hy1_1 : w.heap.size + 1 < w1.heap.size := by omega); (try have hy1_2 : w.heap.size + 1 + 1 < w1.heap.size := by omega); (try have hy1_3 : w.heap.size + 1 + 1 + 1 < w1.heap.size := by omega); (try have hy1_4 : w.heap.size + 1 + 1 + 1 + 1 < w1.heap.size := by omega); (try have hy1_5 : w.heap.size + 1 + 1 + 1 + 1 + 1 < w1.heap.size := by omega)
  go_wp2_with fail; refine (HS.out _ (by repeat' (first | (with_reducible exact Gr.refl _) | (with_reducible assumption) | (with_reducible refine Gr.alloc ?_ _) | (with_reducible refine Gr.drew ?_) | (with_reducible refine Gr.drewN ?_ _) | (with_reducible refine Gr.setCell ?_ ?_ _) | (with_reducible refine Gr.trans ?_ (by with_reducible assumption)) | go_size))).mono ?_; rintro e w2 ⟨rfl, hb2⟩; obtain ⟨hc2, hf2⟩ := Gr.cells hb2; have hz2 := Gr.size hb2; (try simp at hz2); (try have hy2_0 : w.heap.size < w2.heap.size := by omega); (try have hy2_1 : w.heap.size + 1 < w2.heap.size := by omega); (try have hy2_2 : w.heap.size + 1 + 1 < w2.heap.size := by omega); (try have hy2_3 : w.heap.size + 1 + 1 + 1 < w2.heap.size := by omega); (try have hy2_4 : w.heap.size + 1 + 1 + 1 + 1 < w2.heap.size := by omega); (try have hy2_5 : w.heap.size + 1 + 1 + 1 + 1 + 1 < w2.heap.size := by omega); (try have hy2_1_0 : w1.heap.size < w2.heap.size := by omega); (try have hy2_1_1 : w1.heap.size + 1 < w2.heap.size := by omega)
  go_wp2_with fail; refine (HT.out _ (by repeat' (first | (with_reducible exact Gr.refl _) | (with_reducible assumption) | (with_reducible refine Gr.alloc ?_ _) | (with_reducible refine Gr.drew ?_) | (with_reducible refine Gr.drewN ?_ _) | (with_reducible refine Gr.setCell ?_ ?_ _) | (with_reducible refine Gr.trans ?_ (by with_reducible assumption)) | go_size))).mono ?_; rintro e w3 ⟨rfl, hb3⟩; obtain ⟨hc3, hf3⟩ := Gr.cells hb3; have hz3 := Gr.size hb3; (try simp at hz3); (try have hy3_0 : w.heap.size < w3.heap.size := by omega); (try have hy3_1 : w.heap.size + 1 < w3.heap.size := by omega); (try have hy3_2 : w.heap.size + 1 + 1 < w3.heap.size := by omega); (try have hy3_3 : w.heap.size + 1 + 1 + 1 < w3.heap.size := by omega); (try have hy3_4 : w.heap.size + 1 + 1 + 1 + 1 < w3.heap.size := by omega); (try have hy3_5 : w.heap.size + 1 + 1 + 1 + 1 + 1 < w3.heap.size := by omega); (try have hy3_1_0 : w1.heap.size < w3.heap.size := by omega); (try have hy3_1_1 : w1.heap.size + 1 < w3.heap.size := by omega); (try have hy3_2_0 : w2.heap.size < w3.heap.size := by omega); (try have hy3_2_1 : w2.heap.size + 1 < w3.heap.size := by omega)
  go_wp2
  go_ret
  exact ⟨rfl, (by repeat' (first | (with_reducible exact Gr.refl _) | (with_reducible assumption) | (with_reducible refine Gr.alloc ?_ _) | (with_reducible refine Gr.drew ?_) | (with_reducible refine Gr.drewN ?_ _) | (with_reducible refine Gr.setCell ?_ ?_ _) | (with_reducible refine Gr.trans ?_ (by with_reducible assumption)) | go_size))⟩
theorem apart_any (s t : Int) (w : World) (ht : Tab w) :
    Calls Tryd.prog 5 #[.int .i64 s, .int .i64 t] w fun e w' => e = .returned (.bool true) ∧ Gr w w' := by
  have bad : ∀ x : Int, (x < 0 ∨ 68719476736 < x) → (∀ W, Gr w W → Calls Tryd.prog 18 #[.int .i64 x] W fun e w' => e = .returned (.tuple #[.string ⟨#[]⟩, .int .i64 2]) ∧ Gr W w') := fun x hx W _ => duration_bad x W hx
  have good : ∀ x : Int, 0 ≤ x → x ≤ 68719476736 → (∀ W, Gr w W → Calls Tryd.prog 18 #[.int .i64 x] W fun e w' => e = .returned (.tuple #[.string ⟨(Ck.dur x).toArray⟩, .int .i64 0]) ∧ Gr W w') := fun x h0 h1 W hg => duration_any x W h0 h1 (Or.inr (ht.gr hg))
  by_cases hs : 0 ≤ s ∧ s ≤ 68719476736
  · by_cases htt : 0 ≤ t ∧ t ≤ 68719476736
    · exact apart_ok s t w hs.1 hs.2 htt.1 htt.2 ht
    · refine apart_two s t _ w ?_ (good s hs.1 hs.2) (bad t (by omega))
      have := Ck.dur_len hs.1
      cases h : Ck.dur s
      · rw [h] at this; simp at this
      · rfl
  · by_cases htt : 0 ≤ t ∧ t ≤ 68719476736
    · exact apart_one s t _ _ w (bad s (by omega)) (good t htt.1 htt.2)
    · exact apart_one s t _ _ w (bad s (by omega)) (bad t (by omega))
end Go.Proofs.YtlcbjkkcfenlmaaDoor
