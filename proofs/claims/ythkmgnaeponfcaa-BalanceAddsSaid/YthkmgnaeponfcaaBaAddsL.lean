/-
  BalanceAdds: the law.
-/
import Derived.Test.YthkmgnaeponfcaaBaAddsA
import Derived.Test.YthkmgnaeponfcaaBaAddsB
import Derived.Test.YthkmgnaeponfcaaBaAddsZ
import Derived.Test.YthkmgnaeponfcaaBaAddsE
set_option linter.unusedVariables false
set_option linter.unusedSimpArgs false
namespace Go.Proofs.Ythkmgnaeponfcaa
open Go.RowKit
theorem rets_ok {D : Nat → Ba.Ledger} {n2 ln : Nat} {w : World} {e : Ending} {w' : World} {P : Ba.Ledger → Prop} (h : RetSum D n2 ln 0 w e w') (hP : ∀ g : Ba.Ledger, g.inn = Ba.sIn D ln → g.out = Ba.sOut D ln → g.ps.n = n2 → (∀ k, k < n2 → g.ps.X k = Ba.sPs D k ln) → P g) : RetS P 0 w e w' := by
  obtain ⟨g, h1, h2, h3, -, h5, h6⟩ := h
  obtain ⟨a, b, c, d⟩ := h3 rfl
  exact ⟨g, h1, h2, hP g a b c d, h5, h6⟩
theorem rets_no {D : Nat → Ba.Ledger} {n2 ln : Nat} {w : World} {e : Ending} {w' : World} (h : RetSum D n2 ln 5 w e w') : RetS (fun g => g.inn = 0 ∧ g.out = 0 ∧ g.ps.n = 0) 5 w e w' := by
  obtain ⟨g, h1, h2, -, h4, h5, h6⟩ := h
  exact ⟨g, h1, h2, h4 (by omega), h5, h6⟩
set_option maxRecDepth 100000 in
set_option maxHeartbeats 1000000 in
theorem adds_law (N : Ba.SlNode) (L : Ba.SlLink) (G : Ba.SlLedger) (at_ : Int) (w : World) (hN : N.At w) (hL : L.At w) (hG : G.At w) (hnil : G.A = none → G.c = 0) (hat : 0 ≤ at_ ∧ at_ ≤ 255) : Calls Try.prog 6 #[Ba.netVal N L, .slice G.A G.n G.c, .int .u8 at_] w fun e w' => e = .returned (.bool true) ∧ Gr w w' := by
  have HA := Lib.hid (fun W (_ : Gr w W) => awake_any W)
  have HH := Lib.hid (fun W (hh : Gr w W) => heavy_any N L W (hN.gr hh) (hL.gr hh))
  have HI := Lib.hid (fun W (hh : Gr w W) => rlisted_any N L G W (hN.gr hh) (hL.gr hh) (hG.gr hh))
  have hm := Nat.le_trans hG.hc hG.hb
  cases hq : Ba.heavyB N L
  rotate_left
  · rw [hq] at HH
    exact adds_h N.A L.A G.A N.n N.c L.n L.c G.n G.c at_ w HA HH
  rw [hq] at HH
  have hz := Ba.heavy_no hq
  by_cases h20 : 20 < G.n
  · exact adds_n N.A L.A G.A N.n N.c L.n L.c G.n G.c at_ w HA HH hm (decide_eq_true (by omega))
  have t0 : decide ((20 : Int) < (G.n : Int)) = false := decide_eq_false (by omega)
  by_cases he : Ba.lstE N L G = 0
  rotate_left
  · exact adds_e N.A L.A G.A N.n N.c L.n L.c G.n G.c at_ w _ he HA HH hm t0 HI
  rw [he] at HI
  have hv := (Ba.lst_zero he).1
  have HCL := Lib.hid (fun W (hh : Gr w W) => clone_any G W (hG.gr hh) (by omega) hnil)
  have HS := fun W (hh : Gr w W) => sum_ledgers N L G W (hN.gr hh) (hL.gr hh) (hG.gr hh) (by omega)
  have HRV : ∀ (A' : Option Addr) (c' g : Nat) W, Gr w W → (0 < G.n → A' = some ⟨g, 0, none⟩) → G.n ≤ c' → c' ≤ 9223372036854775807 → RowG W g G.n (fun j => G.D (G.n - 1 - j)) → Calls Try.prog 22 #[Ba.netVal N L, .slice A' G.n c'] W (RetSum (fun j => G.D (G.n - 1 - j)) L.n G.n (Ba.sumE N L G) W) := fun A' c' g W hh q1 q2 q3 q4 => by
    have ha : (Ba.revG A' c' g G).At W := ⟨q1, q2, q3, fun i hi => by
      have hr := q4 i hi
      refine ⟨⟨?_, ?_, ?_⟩, ((hG.gr hh).hD _ (by have : i < G.n := hi; omega)).2⟩
      · have := hr.1.1; unfold Ba.revG; simp only [Nat.zero_add]; exact this
      · have := hr.2.1.1; unfold Ba.revG; simp only [Nat.zero_add]; exact this
      · have := hr.2.2.1; unfold Ba.revG; simp only [Nat.zero_add]; exact this⟩
    have hs := sum_ledgers N L (Ba.revG A' c' g G) W (hN.gr hh) (hL.gr hh) ha (by show G.n ≤ 1000; omega)
    rw [Ba.rev_sumE he] at hs
    exact hs
  cases hok : Ba.okS G.D L.n G.n
  · have h5 : Ba.sumE N L G = 5 := by rw [Ba.sumE_val he, hok, if_neg (by decide)]
    rw [h5] at HS HRV
    exact adds_5 N.A L.A G.A N.n N.c L.n L.c G.n G.c at_ w G.D _ _ (by omega) t0 HA HH HI (Lib.hid fun W hh => (HS W hh).mono fun _ _ h => rets_no h) HCL (Lib.hid fun A' c' g W hh q1 q2 q3 q4 => (HRV A' c' g W hh q1 q2 q3 q4).mono fun _ _ h => rets_no h)
      (Lib.hid fun a b ⟨a1, a2, a3⟩ ⟨b1, b2, b3⟩ W ha hb => by
        have h := same_any a b W ha hb
        rw [Ba.same_of (by rw [a1, b1]) (by rw [a2, b2]) (by rw [a3, b3]) (fun k hk => absurd hk (by omega))] at h
        exact h)
  have h0 : Ba.sumE N L G = 0 := by rw [Ba.sumE_val he, hok, if_pos rfl]
  rw [h0] at HS HRV
  obtain ⟨r1, r2, r3⟩ := Ba.rev_sums G.D G.n
  have HS1 := Lib.hid (fun W (hh : Gr w W) => (HS W hh).mono fun _ _ h => rets_ok (P := Ba.IsSum L G) h fun g a b c d => ⟨a, b, c, d⟩)
  have HSR := Lib.hid (fun (A' : Option Addr) (c' g : Nat) W (hh : Gr w W) q1 q2 q3 q4 => (HRV A' c' g W hh q1 q2 q3 q4).mono fun _ _ h => rets_ok (P := Ba.IsSum L G) h fun g a b c d => ⟨a.trans r1, b.trans r2, c, fun k hk => (d k hk).trans (r3 k)⟩)
  have HSA := Lib.hid (show ∀ a b : Ba.Ledger, Ba.IsSum L G a → Ba.IsSum L G b → ∀ W, a.Ok W → b.Ok W → Calls Try.prog 25 #[.agg #[.int .i64 a.inn, .int .i64 a.out, .slice a.ps.A a.ps.n a.ps.c], .agg #[.int .i64 b.inn, .int .i64 b.out, .slice b.ps.A b.ps.n b.ps.c]] W fun e w' => e = .returned (.bool true) ∧ Gr W w' from fun a b ha hb W oa ob => by
    obtain ⟨a1, a2, a3, a4⟩ := ha; obtain ⟨b1, b2, b3, b4⟩ := hb
    have h := same_any a b W oa ob
    rw [Ba.same_of (by rw [a1, b1]) (by rw [a2, b2]) (by rw [a3, b3]) (fun k hk => by rw [a4 k (by omega), b4 k (by omega)])] at h
    exact h)
  have hi0 : 0 ≤ at_ % ((G.n : Int) + 1) := Int.emod_nonneg _ (by omega)
  have hi1 : at_ % ((G.n : Int) + 1) < (G.n : Int) + 1 := Int.emod_lt_of_pos _ (by omega)
  obtain ⟨i, hi⟩ : ∃ i : Nat, at_ % ((G.n : Int) + 1) = (i : Int) := ⟨(at_ % ((G.n : Int) + 1)).toNat, by omega⟩
  have hil : i ≤ G.n := by omega
  -- the two parts, at whatever addresses
  have part : ∀ (A' : Option Addr) (j m c : Nat), (0 < m → A' = some ⟨G.b, G.o + j * 3, none⟩) → j + m ≤ G.n → m ≤ c → c ≤ 9223372036854775807 → ∀ W, Gr w W → Calls Try.prog 22 #[Ba.netVal N L, .slice A' m c] W (RetS (Ba.IsSum L (Ba.partG A' G j m c)) 0 W) := fun A' j m c q1 q2 q3 q4 W hh => by
    have hs := sum_ledgers N L (Ba.partG A' G j m c) W (hN.gr hh) (hL.gr hh) (Ba.partG_at (hG.gr hh) q1 q2 q3 q4) (by show m ≤ 1000; omega)
    rw [Ba.part_sumE he h0 q2] at hs
    exact hs.mono fun _ _ h => rets_ok (P := Ba.IsSum L (Ba.partG A' G j m c)) h fun g a b c d => ⟨a, b, c, d⟩
  have two : ∀ (A1 A2 : Option Addr) (c1 c2 m : Nat), i + m = G.n → ∀ (x y : Ba.Ledger) B W, Gr w W → Ba.IsSum L (Ba.partG A1 G 0 i c1) x → Ba.IsSum L (Ba.partG A2 G i m c2) y → x.Ok W → y.Ok W → x.Cells W B 0 → y.Cells W B 3 →
      Calls Try.prog 22 #[Ba.netVal N L, .slice (some ⟨B, 0, none⟩) 2 2] W (RetS (fun z => ∀ s, Ba.IsSum L G s → Ba.sameB z s = true) 0 W) := fun A1 A2 c1 c2 m hm' x y B W hh hx hy ox oy cx cy => by
    have ha : (Ba.twoG B x y).At W := ⟨fun _ => rfl, by show 2 ≤ 2; omega, by show 2 ≤ 9223372036854775807; omega, fun j hj => by
      have : j < 2 := hj
      rcases (by omega : j = 0 ∨ j = 1) with rfl | rfl
      · exact ⟨cx, ox⟩
      · exact ⟨cy, oy⟩⟩
    have hs := sum_ledgers N L (Ba.twoG B x y) W (hN.gr hh) (hL.gr hh) ha (by show 2 ≤ 1000; omega)
    have hz0 : ∀ z s : Ba.Ledger, _ := fun z s => Ba.two_sum (b := B) (z := z) (s := s) he h0 hm' hx hy
    rw [(hz0 x x).1] at hs
    exact hs.mono fun _ _ h => rets_ok h fun z a b c d s hsm => (hz0 z s).2 ⟨a, b, c, d⟩ hsm
  have HSB := Lib.hid (fun (z s : Ba.Ledger) (hz : ∀ s, Ba.IsSum L G s → Ba.sameB z s = true) (hs : Ba.IsSum L G s) W (oz : z.Ok W) (os : s.Ok W) => by
    have h := same_any z s W oz os
    rw [hz s hs] at h
    exact h)
  have KX := Lib.hid (fun k (hk : k < L.n) => (⟨(hL.hD k hk).1, (hL.hD k hk).2.2.2.2.2.2.2.1⟩ : (L.D k).Cells w L.b (L.o + k * 11) ∧ (L.D k).nm.size ≤ 9223372036854775807))
  have HPX := Lib.hid (fun g (h : Ba.IsSum L G g) => And.intro h.2.2.1 h.2.2.2)
  have HTH := Lib.hid (fun k (hk : k < L.n) W (hh : Gr w W) => by
    have h := thr_any N L G (L.D k).nm W (hN.gr hh) (hL.gr hh) (hG.gr hh)
    rw [(Ba.thr_sum he h0 hk).1, (Ba.thr_sum he h0 hk).2] at h
    exact h)
  have hc := hG.hc; have hb := hG.hb
  by_cases hn : G.n = 0
  · obtain rfl : i = 0 := by omega
    cases hA : G.A with
    | none =>
      have hcz := hnil hA
      rw [hn] at hi
      rw [hn, hA, hcz] at HI HS1 HCL HTH
      rw [hn, hcz]
      rw [hn] at HSR HPX
      exact adds_0e N.A L.A N.n N.c L.n L.c at_ w G.D _ _ (by omega) (by simp) HA HH HI HS1 HCL HSR HSA (by omega) (by omega) hat (by simp) (by omega) _ _ _
        (Lib.hid (part none 0 0 0 (by omega) (by omega) (by omega) (by omega))) (Lib.hid (part none 0 0 0 (by omega) (by omega) (by omega) (by omega))) (Lib.hid (two none none 0 0 0 (by omega))) HSB L.b L.o L.D _ (by omega) (Lib.hid hL.hA) KX HPX HTH
    | some a =>
      obtain ⟨b, o, q⟩ := a
      rw [hn] at hi
      rw [hn, hA] at HI HS1 HCL HTH
      rw [hn] at HSR HPX ⊢
      exact adds_0z N.A L.A N.n N.c L.n L.c G.c b o q at_ w G.D _ _ (by omega) (by simp) HA HH HI HS1 HCL HSR HSA (by omega) (by omega) hat (by simp) (by omega) _ _ _
        (Lib.hid (part _ 0 0 G.c (by omega) (by omega) (by omega) (by omega))) (Lib.hid (part _ 0 0 G.c (by omega) (by omega) (by omega) (by omega))) (Lib.hid (two _ _ G.c G.c 0 (by omega))) HSB L.b L.o L.D _ (by omega) (Lib.hid hL.hA) KX HPX HTH
  have hA := hG.hA (by omega)
  rw [hA] at HI HS1 HCL HTH ⊢
  by_cases hlc : G.c = i
  · obtain rfl : i = G.n := by omega
    rw [hlc] at HI HS1 HCL HTH ⊢
    exact adds_0b N.A L.A N.n N.c L.n L.c G.b G.o G.n at_ w G.D _ _ (by omega) t0 HA HH HI HS1 HCL HSR HSA (by omega) (by omega) hat hi (by omega) _ _ _
      (Lib.hid (part _ 0 G.n G.n (fun _ => by simp) (by omega) (by omega) (by omega))) (Lib.hid (part _ G.n 0 0 (by omega) (by omega) (by omega) (by omega))) (Lib.hid (two _ _ G.n 0 0 (by omega))) HSB L.b L.o L.D _ (by omega) (Lib.hid hL.hA) KX HPX HTH
  · exact adds_0a N.A L.A N.n N.c L.n L.c G.n G.c G.b G.o i at_ w G.D _ _ (by omega) t0 HA HH HI HS1 HCL HSR HSA (fun e => hlc e) hc hb hat hi hil _ _ _
      (Lib.hid (part _ 0 i G.c (fun _ => by simp) (by omega) (by omega) (by omega))) (Lib.hid (part _ i (G.n - i) (G.c - i) (fun _ => rfl) (by omega) (by omega) (by omega))) (Lib.hid (two _ _ G.c (G.c - i) (G.n - i) (by omega))) HSB L.b L.o L.D _ (by omega) (Lib.hid hL.hA) KX HPX HTH
end Go.Proofs.Ythkmgnaeponfcaa
