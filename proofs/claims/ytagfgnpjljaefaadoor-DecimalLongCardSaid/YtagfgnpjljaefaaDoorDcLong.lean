import Derived.Test.YtagfgnpjljaefaaDoorDcWalkJ
set_option linter.unusedVariables false
set_option linter.unusedSimpArgs false
namespace Go.Proofs.YtagfgnpjljaefaaDoor
open Go.RowKit
theorem Dc.go_blank : ∀ (n f : Nat) (ln col : Int) (acc : List Value), n ≤ f → Dc.go f (List.replicate n 32) ln col acc = .inl (acc ++ Dc.tok 5 [] ln (col + n))
  | 0, f, ln, col, acc, _ => by cases f <;> simp [Dc.go]
  | n + 1, 0, _, _, _, h => by omega
  | n + 1, f + 1, ln, col, acc, h => by
    have hx : Dc.nx (List.replicate (n + 1) 32) = (0, 1) := Dc.nx_blank (Or.inl rfl)
    have hn : ¬ List.replicate (n + 1) (32 : UInt8) = [] := by simp
    unfold Dc.go
    rw [if_neg hn, hx]
    show (if (0 : Int) < 0 then _ else if (0 : Int) = 4 then _ else if (0 : Int) = 0 then _ else _) = _
    rw [if_neg (by decide), if_neg (by decide), if_pos rfl, show (List.replicate (n + 1) (32 : UInt8)).drop 1 = List.replicate n 32 from rfl, Dc.go_blank n f _ _ _ (by omega)]
    congr 3
    show col + ((1 : Nat) : Int) + (n : Int) = col + ((n + 1 : Nat) : Int)
    omega
theorem repeat_any (c : UInt8) (N : Nat) (w : World) (h : N ≤ 1000000) : Calls Tryd.prog 16 #[.string ⟨#[c]⟩, .int .i64 (N : Int)] w fun e w' => e = .returned (.string ⟨(List.replicate N c).toArray⟩) ∧ Gr w w' := by
  have := Tryd.strings_Repeat ⟨#[c]⟩ N w (by omega) (by show 1 * N ≤ _; omega)
  have e : Lib.repeatL (⟨#[c]⟩ : ByteArray).data.toList N = List.replicate N c := repeat_one c N
  rw [e] at this
  exact this
theorem tokens_blank (s : ByteArray) (w : World) (hs : s.data.toList = List.replicate 262144 32) : Calls Tryd.prog 15 #[.string s] w fun e w' => ∃ g cap, e = .returned (.tuple #[.slice (some ⟨g, 0, none⟩) 1 cap, .agg #[.int .i64 0, .int .i64 0], .int .i64 0]) ∧ Gr w w' := by
  have hl : s.size = 262144 := by
    have : s.data.toList.length = s.size := by simp
    rw [← this, hs, List.length_replicate]
  refine (tokens_any s w (by omega)).mono ?_
  intro e w' h
  unfold Dc.tokens at h
  rw [hs, Dc.go_blank _ _ _ _ _ (by rw [List.length_replicate]; exact Nat.le_refl _)] at h
  obtain ⟨v, n, rfl, ho, -, hg⟩ := h
  have hn : n = 1 := by have := ho.1; simp [Dc.tok] at this; omega
  subst hn
  obtain ⟨g, cap, rfl, -, -⟩ := row_of ho (by decide)
  exact ⟨g, cap, rfl, hg⟩
set_option maxRecDepth 100000 in
set_option maxHeartbeats 1000000 in
theorem long_any (c m : Int) (w : World) (c0 : 0 ≤ c) (c1 : c ≤ 255) (m0 : 0 ≤ m) (m1 : m ≤ 255) (ht : Tab w) : Calls Tryd.prog 5 #[.int .u8 c, .int .u8 m] w fun e w' => e = .returned (.bool true) ∧ Gr w w' := by
  have HW := Lib.hid (fun W (hg : Gr w W) => awake_any W (ht.gr hg))
  obtain ⟨x, rfl⟩ := Int.eq_ofNat_of_zero_le c0
  obtain ⟨m, rfl⟩ := Int.eq_ofNat_of_zero_le m0
  have hcv := fun W : World => one_byte W x (by omega)
  have hR := fun W : World => repeat_any (UInt8.ofNat x) (262145 + m) W (by omega)
  rw [show ((262145 + m : Nat) : Int) = 262145 + (m : Int) by omega] at hR
  obtain ⟨S, hS, hS2⟩ : ∃ S : ByteArray, S = ⟨(List.replicate (262145 + m) (UInt8.ofNat x)).toArray⟩ ∧ S.size = 262145 + m := ⟨_, rfl, by show (List.replicate (262145 + m) (UInt8.ofNat x)).toArray.size = _; simp⟩
  rw [← hS] at hR
  have HR := Lib.hid hR
  have HT := Lib.hid (fun W : World => tok_long S W (by omega) (by omega))
  have hQ := fun W : World => repeat_any 32 262144 W (by omega)
  obtain ⟨Q, hq, hq2⟩ : ∃ Q : ByteArray, Q = ⟨(List.replicate 262144 (32 : UInt8)).toArray⟩ ∧ Q.data.toList = List.replicate 262144 32 := ⟨_, rfl, rfl⟩
  rw [← hq] at hQ
  have HQ := Lib.hid hQ
  have HB := Lib.hid (fun W : World => tokens_blank Q W hq2)
  clear ht hR hQ hS hS2 hq hq2
  generalize UInt8.ofNat x = dc at *
  go_enter Tryd.func5, Tryd.ntmps5
  go_wp2_with fail; refine (HW.out _ (by repeat' (first | (with_reducible exact Gr.refl _) | (with_reducible assumption) | (with_reducible refine Gr.alloc ?_ _) | (with_reducible refine Gr.drew ?_) | (with_reducible refine Gr.drewN ?_ _) | (with_reducible refine Gr.setCell ?_ ?_ _) | (with_reducible refine Gr.trans ?_ (by with_reducible assumption)) | go_size))).mono ?_; rintro e w1 ⟨rfl, hb1⟩; obtain ⟨hc1, hf1⟩ := Gr.cells hb1; have hz1 := Gr.size hb1; (try simp at hz1); (try have hy1_0 : w.heap.size < w1.heap.size := by omega); (try have hy1_1 : w.heap.size + 1 < w1.heap.size := by omega); (try have hy1_2 : w.heap.size + 1 + 1 < w1.heap.size := by omega); (try have hy1_3 : w.heap.size + 1 + 1 + 1 < w1.heap.size := by omega); (try have hy1_4 : w.heap.size + 1 + 1 + 1 + 1 < w1.heap.size := by omega); (try have hy1_5 : w.heap.size + 1 + 1 + 1 + 1 + 1 < w1.heap.size := by omega)
  go_wp2_with (first | (go_at_call 16; with_reducible refine (HR.out _).mono ?_; rintro e w2 ⟨rfl, hb2⟩) | (go_at_call 15; with_reducible refine (HT.out _).mono ?_; rintro e w3 ⟨rfl, hb3⟩))
  refine (HQ.out _).mono ?_
  rintro e w4 ⟨rfl, hb4⟩
  obtain ⟨hc4, hf4⟩ := Gr.cells hb4; have hz4 := Gr.size hb4; (try simp at hz4); (try have hy4_0 : w.heap.size < w4.heap.size := by omega); (try have hy4_1 : w.heap.size + 1 < w4.heap.size := by omega); (try have hy4_2 : w.heap.size + 1 + 1 < w4.heap.size := by omega); (try have hy4_3 : w.heap.size + 1 + 1 + 1 < w4.heap.size := by omega); (try have hy4_4 : w.heap.size + 1 + 1 + 1 + 1 < w4.heap.size := by omega); (try have hy4_5 : w.heap.size + 1 + 1 + 1 + 1 + 1 < w4.heap.size := by omega); (try have hy4_1_0 : w1.heap.size < w4.heap.size := by omega); (try have hy4_1_1 : w1.heap.size + 1 < w4.heap.size := by omega); (try have hy4_2_0 : w2.heap.size < w4.heap.size := by omega); (try have hy4_2_1 : w2.heap.size + 1 < w4.heap.size := by omega); (try have hy4_3_0 : w3.heap.size < w4.heap.size := by omega); (try have hy4_3_1 : w3.heap.size + 1 < w4.heap.size := by omega)
  go_wp2_with fail
  refine (HB.out _).mono ?_
  rintro e w5 ⟨g, cap, rfl, hb5⟩
  obtain ⟨hc5, hf5⟩ := Gr.cells hb5; have hz5 := Gr.size hb5; (try simp at hz5); (try have hy5_0 : w.heap.size < w5.heap.size := by omega); (try have hy5_1 : w.heap.size + 1 < w5.heap.size := by omega); (try have hy5_2 : w.heap.size + 1 + 1 < w5.heap.size := by omega); (try have hy5_3 : w.heap.size + 1 + 1 + 1 < w5.heap.size := by omega); (try have hy5_4 : w.heap.size + 1 + 1 + 1 + 1 < w5.heap.size := by omega); (try have hy5_5 : w.heap.size + 1 + 1 + 1 + 1 + 1 < w5.heap.size := by omega); (try have hy5_1_0 : w1.heap.size < w5.heap.size := by omega); (try have hy5_1_1 : w1.heap.size + 1 < w5.heap.size := by omega); (try have hy5_2_0 : w2.heap.size < w5.heap.size := by omega); (try have hy5_2_1 : w2.heap.size + 1 < w5.heap.size := by omega); (try have hy5_3_0 : w3.heap.size < w5.heap.size := by omega); (try have hy5_3_1 : w3.heap.size + 1 < w5.heap.size := by omega); (try have hy5_4_0 : w4.heap.size < w5.heap.size := by omega); (try have hy5_4_1 : w4.heap.size + 1 < w5.heap.size := by omega)
  go_wp2
  go_ret
  exact ⟨rfl, (by repeat' (first | (with_reducible exact Gr.refl _) | (with_reducible assumption) | (with_reducible refine Gr.alloc ?_ _) | (with_reducible refine Gr.drew ?_) | (with_reducible refine Gr.drewN ?_ _) | (with_reducible refine Gr.setCell ?_ ?_ _) | (with_reducible refine Gr.trans ?_ (by with_reducible assumption)) | go_size))⟩
end Go.Proofs.YtagfgnpjljaefaaDoor
