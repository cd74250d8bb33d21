import Derived.Test.YtagfgnpjljaefaaDoorDcRName
set_option linter.unusedVariables false
set_option linter.unusedSimpArgs false
namespace Go.Proofs.YtagfgnpjljaefaaDoor
open Go.RowKit
/-- Tokens, a row of them. -/
theorem tok_yes {cs : List Value} {n : Nat} (s : ByteArray) (hs : s.size ≤ 262144) (h : Dc.tokens s.data.toList = .inl cs) (hr : TokRow cs n) (h0 : n ≠ 0) (w : World) :
    Calls Tryd.prog 15 #[.string s] w fun e w' => ∃ g cap, e = .returned (.tuple #[.slice (some ⟨g, 0, none⟩) n cap, .agg #[.int .i64 0, .int .i64 0], .int .i64 0]) ∧ (Hid (∀ j u, cs[j]? = some u → w'.cell? ⟨g, j, none⟩ = some u)) ∧ Gr w w' := by
  refine (tokens_any s w hs).mono ?_
  intro e w' hp
  rw [h] at hp
  obtain ⟨v, m, rfl, ho, -, hg⟩ := hp
  have hm : m = n := by have := ho.1; have := hr.len; omega
  subst hm
  obtain ⟨g, cap, rfl, hcap, hc⟩ := row_of ho h0
  exact ⟨g, cap, rfl, Lib.hid hc, hg⟩
theorem rtok_yes {cs : List Value} {n : Nat} (s : ByteArray) (hs : s.size ≤ 262144) (h : Dc.tokens s.data.toList = .inl cs) (hr : TokRow cs n) (h0 : n ≠ 0) (w : World) :
    Calls Tryd.prog 18 #[.string s] w fun e w' => ∃ g cap, e = .returned (.tuple #[.slice (some ⟨g, 0, none⟩) n cap, .agg #[.int .i64 0, .int .i64 0], .int .i64 0]) ∧ (Hid (∀ j u, cs[j]? = some u → w'.cell? ⟨g, j, none⟩ = some u)) ∧ Gr w w' := by
  have hl : s.data.toList.length = s.size := by simp
  refine (rtok_walk _ s w hs ⟨⟨_, Nat.le_refl _, rfl⟩, by omega, by omega, by omega, by omega, by omega⟩).mono ?_
  intro e w' hp
  rw [show Dc.go s.data.toList.length s.data.toList 1 1 [] = .inl cs from h] at hp
  obtain ⟨v, m, rfl, ho, -, hg⟩ := hp
  have hm : m = n := by have := ho.1; have := hr.len; omega
  subst hm
  obtain ⟨g, cap, rfl, hcap, hc⟩ := row_of ho h0
  exact ⟨g, cap, rfl, Lib.hid hc, hg⟩
theorem tok_no {ln col : Int} (s : ByteArray) (hs : s.size ≤ 262144) (h : Dc.tokens s.data.toList = .inr (ln, col)) (w : World) :
    Calls Tryd.prog 15 #[.string s] w fun e w' => e = .returned (.tuple #[.slice none 0 0, .agg #[.int .i64 ln, .int .i64 col], .int .i64 7]) ∧ Gr w w' := by
  refine (tokens_any s w hs).mono ?_
  intro e w' hp
  rw [h] at hp
  exact hp
theorem rtok_no {ln col : Int} (s : ByteArray) (hs : s.size ≤ 262144) (h : Dc.tokens s.data.toList = .inr (ln, col)) (w : World) :
    Calls Tryd.prog 18 #[.string s] w fun e w' => e = .returned (.tuple #[.slice none 0 0, .agg #[.int .i64 ln, .int .i64 col], .int .i64 7]) ∧ Gr w w' := by
  have hl : s.data.toList.length = s.size := by simp
  refine (rtok_walk _ s w hs ⟨⟨_, Nat.le_refl _, rfl⟩, by omega, by omega, by omega, by omega, by omega⟩).mono ?_
  intro e w' hp
  rw [show Dc.go s.data.toList.length s.data.toList 1 1 [] = .inr (ln, col) from h] at hp
  exact hp
theorem go_pos : ∀ (f : Nat) (l : List UInt8) (ln col : Int) (acc cs : List Value), Dc.go f l ln col acc = .inl cs → cs ≠ []
  | 0, l, ln, col, acc, cs, h => by
    unfold Dc.go at h; injection h with h; subst h; simp [Dc.tok]
  | f + 1, l, ln, col, acc, cs, h => by
    unfold Dc.go at h
    split at h
    · injection h with h; subst h; simp [Dc.tok]
    · split at h
      · cases h
      · split at h
        · exact go_pos f _ _ _ _ cs h
        · split at h
          · exact go_pos f _ _ _ _ cs h
          · exact go_pos f _ _ _ _ cs h
theorem go_most : ∀ (f : Nat) (l : List UInt8) (ln col : Int) (acc cs : List Value), Dc.go f l ln col acc = .inl cs → cs.length ≤ acc.length + 4 * f + 4
  | 0, l, ln, col, acc, cs, h => by
    unfold Dc.go at h; injection h with h; subst h; simp [Dc.tok]
  | f + 1, l, ln, col, acc, cs, h => by
    unfold Dc.go at h
    split at h
    · injection h with h; subst h; simp [Dc.tok]
    · split at h
      · cases h
      · split at h
        · have := go_most f _ _ _ _ cs h; simp [Dc.tok] at this; omega
        · split at h
          · have := go_most f _ _ _ _ cs h; omega
          · have := go_most f _ _ _ _ cs h; simp [Dc.tok] at this; omega
set_option maxRecDepth 100000 in
set_option maxHeartbeats 2000000 in
theorem dtokens_any (s : ByteArray) (w : World) (hm : s.size ≤ 9223372036854775807) (ht : Tab w) : Calls Tryd.prog 7 #[.string s] w fun e w' => e = .returned (.bool true) ∧ Gr w w' := by
  have HW := Lib.hid (fun W (hg : Gr w W) => awake_any W (ht.gr hg))
  clear ht
  by_cases hs : s.size ≤ 1000
  · have t0 : decide ((1000 : Int) < (s.size : Int)) = false := decide_eq_false (by omega)
    have HN := Lib.hid (fun W => isname_any s W hs)
    have HM := Lib.hid (fun W => risname_any s W hs)
    cases hR : Dc.tokens s.data.toList with
    | inl cs =>
      obtain ⟨n, hr⟩ := tokens_row hR
      have hp := go_pos _ _ _ _ _ _ hR
      have hq := go_most _ _ _ _ _ _ hR
      have hl : s.data.toList.length = s.size := by simp
      have hrl := hr.len
      have hcl : cs.length ≠ 0 := fun e => hp (List.eq_nil_of_length_eq_zero e)
      rw [hl] at hq
      simp only [List.length_nil] at hq
      have h0 : n ≠ 0 := by intro e; subst e; omega
      have hn : n ≤ 262145 := by omega
      have HT := Lib.hid (tok_yes s (by omega) hR hr h0)
      have HU := Lib.hid (rtok_yes s (by omega) hR hr h0)
      have HE := Lib.hid (fun g g' cap cap' W => eqtok_any g g' cap cap' n cs W hr hn)
      clear hR hr hp hq hl hrl hcl h0
      generalize Dc.isName s.data.toList = b at *
      go_enter Tryd.func7, Tryd.ntmps7
      go_wp2_with fail; refine (HW.out _ (by repeat' (first | (with_reducible exact Gr.refl _) | (with_reducible assumption) | (with_reducible refine Gr.alloc ?_ _) | (with_reducible refine Gr.drew ?_) | (with_reducible refine Gr.drewN ?_ _) | (with_reducible refine Gr.setCell ?_ ?_ _) | (with_reducible refine Gr.trans ?_ (by with_reducible assumption)) | go_size))).mono ?_; rintro e w1 ⟨rfl, hb1⟩; obtain ⟨hc1, hf1⟩ := Gr.cells hb1; have hz1 := Gr.size hb1; (try simp at hz1); (try have hy1_0 : w.heap.size < w1.heap.size := by omega); (try have hy1_1 : w.heap.size + 1 < w1.heap.size := by omega); (try have hy1_2 : w.heap.size + 1 + 1 < w1.heap.size := by omega); (try have hy1_3 : w.heap.size + 1 + 1 + 1 < w1.heap.size := by omega); (try have hy1_4 : w.heap.size + 1 + 1 + 1 + 1 < w1.heap.size := by omega); (try have hy1_5 : w.heap.size + 1 + 1 + 1 + 1 + 1 < w1.heap.size := by omega)
      go_wp2_with fail
      refine (HT.out _).mono ?_
      rintro e w2 ⟨g, cap, rfl, hr2, hb2⟩
      obtain ⟨hc2, hf2⟩ := Gr.cells hb2; have hz2 := Gr.size hb2; (try simp at hz2); (try have hy2_0 : w.heap.size < w2.heap.size := by omega); (try have hy2_1 : w.heap.size + 1 < w2.heap.size := by omega); (try have hy2_2 : w.heap.size + 1 + 1 < w2.heap.size := by omega); (try have hy2_3 : w.heap.size + 1 + 1 + 1 < w2.heap.size := by omega); (try have hy2_4 : w.heap.size + 1 + 1 + 1 + 1 < w2.heap.size := by omega); (try have hy2_5 : w.heap.size + 1 + 1 + 1 + 1 + 1 < w2.heap.size := by omega); (try have hy2_1_0 : w1.heap.size < w2.heap.size := by omega); (try have hy2_1_1 : w1.heap.size + 1 < w2.heap.size := by omega)
      go_wp2_with fail
      refine (HU.out _).mono ?_
      rintro e w3 ⟨g', cap', rfl, hr3, hb3⟩
      obtain ⟨hc3, hf3⟩ := Gr.cells hb3; have hz3 := Gr.size hb3; (try simp at hz3); (try have hy3_0 : w.heap.size < w3.heap.size := by omega); (try have hy3_1 : w.heap.size + 1 < w3.heap.size := by omega); (try have hy3_2 : w.heap.size + 1 + 1 < w3.heap.size := by omega); (try have hy3_3 : w.heap.size + 1 + 1 + 1 < w3.heap.size := by omega); (try have hy3_4 : w.heap.size + 1 + 1 + 1 + 1 < w3.heap.size := by omega); (try have hy3_5 : w.heap.size + 1 + 1 + 1 + 1 + 1 < w3.heap.size := by omega); (try have hy3_1_0 : w1.heap.size < w3.heap.size := by omega); (try have hy3_1_1 : w1.heap.size + 1 < w3.heap.size := by omega); (try have hy3_2_0 : w2.heap.size < w3.heap.size := by omega); (try have hy3_2_1 : w2.heap.size + 1 < w3.heap.size := by omega)
      go_wp2_with (first | (go_at_call 19; with_reducible refine (HE.out g g' cap cap' _ (fun j u h => Gr.at (by exact (by repeat' (first | (with_reducible exact Gr.refl _) | (with_reducible assumption) | (with_reducible refine Gr.alloc ?_ _) | (with_reducible refine Gr.drew ?_) | (with_reducible refine Gr.drewN ?_ _) | (with_reducible refine Gr.setCell ?_ ?_ _) | (with_reducible refine Gr.trans ?_ (by with_reducible assumption)) | go_size))) (hr2.out j u h)) (fun j u h => Gr.at (by exact (by repeat' (first | (with_reducible exact Gr.refl _) | (with_reducible assumption) | (with_reducible refine Gr.alloc ?_ _) | (with_reducible refine Gr.drew ?_) | (with_reducible refine Gr.drewN ?_ _) | (with_reducible refine Gr.setCell ?_ ?_ _) | (with_reducible refine Gr.trans ?_ (by with_reducible assumption)) | go_size))) (hr3.out j u h))).mono ?_; rintro e w4 ⟨rfl, hb4⟩; obtain ⟨hc4, hf4⟩ := Gr.cells hb4; have hz4 := Gr.size hb4; (try simp at hz4); (try have hy4_0 : w.heap.size < w4.heap.size := by omega); (try have hy4_1 : w.heap.size + 1 < w4.heap.size := by omega); (try have hy4_2 : w.heap.size + 1 + 1 < w4.heap.size := by omega); (try have hy4_3 : w.heap.size + 1 + 1 + 1 < w4.heap.size := by omega); (try have hy4_4 : w.heap.size + 1 + 1 + 1 + 1 < w4.heap.size := by omega); (try have hy4_5 : w.heap.size + 1 + 1 + 1 + 1 + 1 < w4.heap.size := by omega); (try have hy4_1_0 : w1.heap.size < w4.heap.size := by omega); (try have hy4_1_1 : w1.heap.size + 1 < w4.heap.size := by omega); (try have hy4_2_0 : w2.heap.size < w4.heap.size := by omega); (try have hy4_2_1 : w2.heap.size + 1 < w4.heap.size := by omega); (try have hy4_3_0 : w3.heap.size < w4.heap.size := by omega); (try have hy4_3_1 : w3.heap.size + 1 < w4.heap.size := by omega)) | (go_at_call 20; with_reducible refine (HN.out _).mono ?_; rintro e w' ⟨rfl, rfl⟩) | (go_at_call 21; with_reducible refine (HM.out _).mono ?_; rintro e w' ⟨rfl, rfl⟩))
      go_ret
      exact ⟨ret_bool (by simp), (by repeat' (first | (with_reducible exact Gr.refl _) | (with_reducible assumption) | (with_reducible refine Gr.alloc ?_ _) | (with_reducible refine Gr.drew ?_) | (with_reducible refine Gr.drewN ?_ _) | (with_reducible refine Gr.setCell ?_ ?_ _) | (with_reducible refine Gr.trans ?_ (by with_reducible assumption)) | go_size))⟩
    | inr p =>
      obtain ⟨ln, col⟩ := p
      have HT := Lib.hid (tok_no s (by omega) hR)
      have HU := Lib.hid (rtok_no s (by omega) hR)
      have HE := Lib.hid eqtok_nil
      clear hR
      generalize Dc.isName s.data.toList = b at *
      go_enter Tryd.func7, Tryd.ntmps7
      go_wp2_with fail; refine (HW.out _ (by repeat' (first | (with_reducible exact Gr.refl _) | (with_reducible assumption) | (with_reducible refine Gr.alloc ?_ _) | (with_reducible refine Gr.drew ?_) | (with_reducible refine Gr.drewN ?_ _) | (with_reducible refine Gr.setCell ?_ ?_ _) | (with_reducible refine Gr.trans ?_ (by with_reducible assumption)) | go_size))).mono ?_; rintro e w1 ⟨rfl, hb1⟩; obtain ⟨hc1, hf1⟩ := Gr.cells hb1; have hz1 := Gr.size hb1; (try simp at hz1); (try have hy1_0 : w.heap.size < w1.heap.size := by omega); (try have hy1_1 : w.heap.size + 1 < w1.heap.size := by omega); (try have hy1_2 : w.heap.size + 1 + 1 < w1.heap.size := by omega); (try have hy1_3 : w.heap.size + 1 + 1 + 1 < w1.heap.size := by omega); (try have hy1_4 : w.heap.size + 1 + 1 + 1 + 1 < w1.heap.size := by omega); (try have hy1_5 : w.heap.size + 1 + 1 + 1 + 1 + 1 < w1.heap.size := by omega)
      go_wp2_with fail; refine (HT.out _).mono ?_; rintro e w2 ⟨rfl, hb2⟩; obtain ⟨hc2, hf2⟩ := Gr.cells hb2; have hz2 := Gr.size hb2; (try simp at hz2); (try have hy2_0 : w.heap.size < w2.heap.size := by omega); (try have hy2_1 : w.heap.size + 1 < w2.heap.size := by omega); (try have hy2_2 : w.heap.size + 1 + 1 < w2.heap.size := by omega); (try have hy2_3 : w.heap.size + 1 + 1 + 1 < w2.heap.size := by omega); (try have hy2_4 : w.heap.size + 1 + 1 + 1 + 1 < w2.heap.size := by omega); (try have hy2_5 : w.heap.size + 1 + 1 + 1 + 1 + 1 < w2.heap.size := by omega); (try have hy2_1_0 : w1.heap.size < w2.heap.size := by omega); (try have hy2_1_1 : w1.heap.size + 1 < w2.heap.size := by omega)
      go_wp2_with fail; refine (HU.out _).mono ?_; rintro e w3 ⟨rfl, hb3⟩; obtain ⟨hc3, hf3⟩ := Gr.cells hb3; have hz3 := Gr.size hb3; (try simp at hz3); (try have hy3_0 : w.heap.size < w3.heap.size := by omega); (try have hy3_1 : w.heap.size + 1 < w3.heap.size := by omega); (try have hy3_2 : w.heap.size + 1 + 1 < w3.heap.size := by omega); (try have hy3_3 : w.heap.size + 1 + 1 + 1 < w3.heap.size := by omega); (try have hy3_4 : w.heap.size + 1 + 1 + 1 + 1 < w3.heap.size := by omega); (try have hy3_5 : w.heap.size + 1 + 1 + 1 + 1 + 1 < w3.heap.size := by omega); (try have hy3_1_0 : w1.heap.size < w3.heap.size := by omega); (try have hy3_1_1 : w1.heap.size + 1 < w3.heap.size := by omega); (try have hy3_2_0 : w2.heap.size < w3.heap.size := by omega); (try have hy3_2_1 : w2.heap.size + 1 < w3.heap.size := by omega)
      go_wp2_with (first | (go_at_call 19; with_reducible refine (HE.out _).mono ?_; rintro e w4 ⟨rfl, hb4⟩; obtain ⟨hc4, hf4⟩ := Gr.cells hb4; have hz4 := Gr.size hb4; (try simp at hz4); (try have hy4_0 : w.heap.size < w4.heap.size := by omega); (try have hy4_1 : w.heap.size + 1 < w4.heap.size := by omega); (try have hy4_2 : w.heap.size + 1 + 1 < w4.heap.size := by omega); (try have hy4_3 : w.heap.size + 1 + 1 + 1 < w4.heap.size := by omega); (try have hy4_4 : w.heap.size + 1 + 1 + 1 + 1 < w4.heap.size := by omega); (try have hy4_5 : w.heap.size + 1 + 1 + 1 + 1 + 1 < w4.heap.size := by omega); (try have hy4_1_0 : w1.heap.size < w4.heap.size := by omega); (try have hy4_1_1 : w1.heap.size + 1 < w4.heap.size := by omega); (try have hy4_2_0 : w2.heap.size < w4.heap.size := by omega); (try have hy4_2_1 : w2.heap.size + 1 < w4.heap.size := by omega); (try have hy4_3_0 : w3.heap.size < w4.heap.size := by omega); (try have hy4_3_1 : w3.heap.size + 1 < w4.heap.size := by omega)) | (go_at_call 20; with_reducible refine (HN.out _).mono ?_; rintro e w' ⟨rfl, rfl⟩) | (go_at_call 21; with_reducible refine (HM.out _).mono ?_; rintro e w' ⟨rfl, rfl⟩))
      go_ret
      exact ⟨ret_bool (by simp), (by repeat' (first | (with_reducible exact Gr.refl _) | (with_reducible assumption) | (with_reducible refine Gr.alloc ?_ _) | (with_reducible refine Gr.drew ?_) | (with_reducible refine Gr.drewN ?_ _) | (with_reducible refine Gr.setCell ?_ ?_ _) | (with_reducible refine Gr.trans ?_ (by with_reducible assumption)) | go_size))⟩
  · have t0 : decide ((1000 : Int) < (s.size : Int)) = true := decide_eq_true (by omega)
    clear hs
    go_enter Tryd.func7, Tryd.ntmps7
    go_wp2_with fail; refine (HW.out _ (by repeat' (first | (with_reducible exact Gr.refl _) | (with_reducible assumption) | (with_reducible refine Gr.alloc ?_ _) | (with_reducible refine Gr.drew ?_) | (with_reducible refine Gr.drewN ?_ _) | (with_reducible refine Gr.setCell ?_ ?_ _) | (with_reducible refine Gr.trans ?_ (by with_reducible assumption)) | go_size))).mono ?_; rintro e w1 ⟨rfl, hb1⟩; obtain ⟨hc1, hf1⟩ := Gr.cells hb1; have hz1 := Gr.size hb1; (try simp at hz1); (try have hy1_0 : w.heap.size < w1.heap.size := by omega); (try have hy1_1 : w.heap.size + 1 < w1.heap.size := by omega); (try have hy1_2 : w.heap.size + 1 + 1 < w1.heap.size := by omega); (try have hy1_3 : w.heap.size + 1 + 1 + 1 < w1.heap.size := by omega); (try have hy1_4 : w.heap.size + 1 + 1 + 1 + 1 < w1.heap.size := by omega); (try have hy1_5 : w.heap.size + 1 + 1 + 1 + 1 + 1 < w1.heap.size := by omega)
    go_wp2_with fail
    go_ret
    exact ⟨rfl, (by repeat' (first | (with_reducible exact Gr.refl _) | (with_reducible assumption) | (with_reducible refine Gr.alloc ?_ _) | (with_reducible refine Gr.drew ?_) | (with_reducible refine Gr.drewN ?_ _) | (with_reducible refine Gr.setCell ?_ ?_ _) | (with_reducible refine Gr.trans ?_ (by with_reducible assumption)) | go_size))⟩
end Go.Proofs.YtagfgnpjljaefaaDoor
