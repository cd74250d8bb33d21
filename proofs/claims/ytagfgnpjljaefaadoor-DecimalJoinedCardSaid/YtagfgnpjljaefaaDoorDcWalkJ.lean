import Derived.Test.YtagfgnpjljaefaaDoorDcWalkI
set_option linter.unusedVariables false
set_option linter.unusedSimpArgs false
namespace Go.Proofs.YtagfgnpjljaefaaDoor
open Go.RowKit
theorem tokens_any (s : ByteArray) (w : World) (hs : s.size ≤ 262144) : Calls Tryd.prog 15 #[.string s] w (TkPost w (Dc.tokens s.data.toList)) := by
  have hl : s.data.toList.length = s.size := by simp
  exact tok_walk _ s w hs ⟨⟨_, Nat.le_refl _, rfl⟩, by omega, by omega, by omega, by omega, by omega⟩
/-- set g1 := 0 # off -/
def exTok : List UInt8 := [115, 101, 116, 32, 103, 49, 32, 58, 61, 32, 48, 32, 35, 32, 111, 102, 102]
theorem exTok_eq : Dc.tokens exTok = .inl [.int .i64 1, .string ⟨#[115, 101, 116]⟩, .int .i64 1, .int .i64 1, .int .i64 1, .string ⟨#[103, 49]⟩, .int .i64 1, .int .i64 5, .int .i64 3, .string ⟨#[58, 61]⟩, .int .i64 1, .int .i64 8, .int .i64 2, .string ⟨#[48]⟩, .int .i64 1, .int .i64 11, .int .i64 5, .string ⟨#[]⟩, .int .i64 1, .int .i64 18] := by kernel_rfl
/-- A row that is not empty. -/
theorem row_of {w : World} {base e size n : Nat} {v : Value} {cs : List Value} (ho : w.ownsRow base e size v n cs) (hn : n ≠ 0) : ∃ g cap, v = .slice (some ⟨g, 0, none⟩) n cap ∧ n ≤ cap ∧ ∀ j u, cs[j]? = some u → w.cell? ⟨g, j, none⟩ = some u := by
  have hc := fun g hg => ho.cells (g := g) hg
  obtain ⟨-, ⟨-, h⟩ | ⟨g, cap, cur, hv, -, -, hcap, -⟩⟩ := ho
  · exact absurd h hn
  · subst hv
    refine ⟨g, cap, rfl, hcap, fun j u hj => ?_⟩
    have := hc g rfl j u hj
    rwa [show (⟨g, 0, none⟩ : Addr).add j = ⟨g, j, none⟩ by unfold Addr.add; split <;> simp_all] at this
theorem tokens_ex (w : World) : Calls Tryd.prog 15 #[.string ⟨#[115, 101, 116, 32, 103, 49, 32, 58, 61, 32, 48, 32, 35, 32, 111, 102, 102]⟩] w fun e w' => ∃ g cap, e = .returned (.tuple #[.slice (some ⟨g, 0, none⟩) 5 cap, .agg #[.int .i64 0, .int .i64 0], .int .i64 0]) ∧ 5 ≤ cap ∧ w'.cell? ⟨g, 9, none⟩ = some (.string ⟨#[58, 61]⟩) ∧ w'.cell? ⟨g, 18, none⟩ = some (.int .i64 1) ∧ w'.cell? ⟨g, 19, none⟩ = some (.int .i64 18) ∧ Gr w w' := by
  refine (tokens_any ⟨#[115, 101, 116, 32, 103, 49, 32, 58, 61, 32, 48, 32, 35, 32, 111, 102, 102]⟩ w (by decide)).mono ?_
  intro e w' h
  rw [show (⟨#[115, 101, 116, 32, 103, 49, 32, 58, 61, 32, 48, 32, 35, 32, 111, 102, 102]⟩ : ByteArray).data.toList = exTok from rfl, exTok_eq] at h
  obtain ⟨v, n, rfl, ho, -, hg⟩ := h
  have hn : n = 5 := by have := ho.1; simp at this; omega
  subst hn
  obtain ⟨g, cap, rfl, hcap, hc⟩ := row_of ho (by decide)
  exact ⟨g, cap, rfl, hcap, hc 9 _ rfl, hc 18 _ rfl, hc 19 _ rfl, hg⟩
theorem fmt_ex : Dc.fmt (-1234) (2 : Int).toNat = [45, 49, 50, 46, 51, 52] := by
  have e : Lib.decDigits 1234 = [49, 50, 51, 52] := by rw [Lib.decDigits, Lib.decDigits, Lib.decDigits, Lib.decDigits]; decide
  have d : Dg.dig 1234 3 = [49, 50, 51, 52] := by unfold Dg.dig; rw [e]; rfl
  show Dc.sgn (-1234) ++ (if 2 = 0 then Dg.dig 1234 1 else (Dg.dig 1234 3).take ((Dg.dig 1234 3).length - 2) ++ [46] ++ (Dg.dig 1234 3).drop ((Dg.dig 1234 3).length - 2)) = _
  rw [d]; rfl
set_option maxRecDepth 100000 in
set_option maxHeartbeats 1000000 in
theorem awake_any (w : World) (ht : Tab w) : Calls Tryd.prog 9 #[] w fun e w' => e = .returned (.bool true) ∧ Gr w w' := by
  have HA := Lib.hid (fun W (hg : Gr w W) => format_any (-1234) 2 W (by decide) (by decide) (ht.gr hg))
  rw [fmt_ex] at HA
  have HB := Lib.hid parse_ex
  have HC := Lib.hid (fun W => round_any (-15) 10 W (by decide) (by decide))
  rw [show Dc.rn (-15) 10 = -1 by decide] at HC
  have HD := Lib.hid tokens_ex
  go_enter Tryd.func9, Tryd.ntmps9
  go_wp2_with fail; refine (HA.out _ (by repeat' (first | (with_reducible exact Gr.refl _) | (with_reducible assumption) | (with_reducible refine Gr.alloc ?_ _) | (with_reducible refine Gr.drew ?_) | (with_reducible refine Gr.drewN ?_ _) | (with_reducible refine Gr.setCell ?_ ?_ _) | (with_reducible refine Gr.trans ?_ (by with_reducible assumption)) | go_size))).mono ?_; rintro e w1 ⟨rfl, hb1⟩; obtain ⟨hc1, hf1⟩ := Gr.cells hb1; have hz1 := Gr.size hb1; (try simp at hz1); (try have hy1_0 : w.heap.size < w1.heap.size := by omega); (try have hy1_1 : w.heap.size + 1 < w1.heap.size := by omega); (try have hy1_2 : w.heap.size + 1 + 1 < w1.heap.size := by omega); (try have hy1_3 : w.heap.size + 1 + 1 + 1 < w1.heap.size := by omega); (try have hy1_4 : w.heap.size + 1 + 1 + 1 + 1 < w1.heap.size := by omega); (try have hy1_5 : w.heap.size + 1 + 1 + 1 + 1 + 1 < w1.heap.size := by omega)
  go_wp2_with fail; refine (HB.out _).mono ?_; rintro e w2 ⟨rfl, hb2⟩; obtain ⟨hc2, hf2⟩ := Gr.cells hb2; have hz2 := Gr.size hb2; (try simp at hz2); (try have hy2_0 : w.heap.size < w2.heap.size := by omega); (try have hy2_1 : w.heap.size + 1 < w2.heap.size := by omega); (try have hy2_2 : w.heap.size + 1 + 1 < w2.heap.size := by omega); (try have hy2_3 : w.heap.size + 1 + 1 + 1 < w2.heap.size := by omega); (try have hy2_4 : w.heap.size + 1 + 1 + 1 + 1 < w2.heap.size := by omega); (try have hy2_5 : w.heap.size + 1 + 1 + 1 + 1 + 1 < w2.heap.size := by omega); (try have hy2_1_0 : w1.heap.size < w2.heap.size := by omega); (try have hy2_1_1 : w1.heap.size + 1 < w2.heap.size := by omega)
  go_wp2_with fail; refine (HC.out _).mono ?_; rintro e w3 ⟨rfl, hb3⟩; obtain ⟨hc3, hf3⟩ := Gr.cells hb3; have hz3 := Gr.size hb3; (try simp at hz3); (try have hy3_0 : w.heap.size < w3.heap.size := by omega); (try have hy3_1 : w.heap.size + 1 < w3.heap.size := by omega); (try have hy3_2 : w.heap.size + 1 + 1 < w3.heap.size := by omega); (try have hy3_3 : w.heap.size + 1 + 1 + 1 < w3.heap.size := by omega); (try have hy3_4 : w.heap.size + 1 + 1 + 1 + 1 < w3.heap.size := by omega); (try have hy3_5 : w.heap.size + 1 + 1 + 1 + 1 + 1 < w3.heap.size := by omega); (try have hy3_1_0 : w1.heap.size < w3.heap.size := by omega); (try have hy3_1_1 : w1.heap.size + 1 < w3.heap.size := by omega); (try have hy3_2_0 : w2.heap.size < w3.heap.size := by omega); (try have hy3_2_1 : w2.heap.size + 1 < w3.heap.size := by omega)
  go_wp2_with fail
  refine (HD.out _).mono ?_
  rintro e w4 ⟨g, cap, rfl, hcap, q0, q1, q2, hb4⟩
  have hlt : g < w4.heap.size := World.block_lt_of_cell? w4 ⟨g, 9, none⟩ q0
  have hne : g ≠ w4.heap.size := by omega
  have hne2 : w4.heap.size ≠ g := by omega
  go_wp2
  go_ret
  exact ⟨rfl, (by repeat' (first | (with_reducible exact Gr.refl _) | (with_reducible assumption) | (with_reducible refine Gr.alloc ?_ _) | (with_reducible refine Gr.drew ?_) | (with_reducible refine Gr.drewN ?_ _) | (with_reducible refine Gr.setCell ?_ ?_ _) | (with_reducible refine Gr.trans ?_ (by with_reducible assumption)) | go_size))⟩
end Go.Proofs.YtagfgnpjljaefaaDoor
