/-
  Law 25: RunoffDays, all ways.
-/
import Derived.Test.YtjighhphadfoiaaRoZc
set_option linter.unusedVariables false
set_option linter.unusedSimpArgs false
namespace Go.Proofs.Ytjighhphadfoiaa
open Go.RowKit
attribute [local go_sem ↓] Go.wp_at_zero Go.wp_at_succ

set_option maxRecDepth 100000 in
set_option maxHeartbeats 4000000 in
theorem days_f (nd : ByteArray) (daily : Int) (s : Ba.SlI) (pt : Int) (d : Ba.Inflow) (w : World) (hs : s.At w) (hm : nd.size ≤ 9223372036854775807) (hd : d.Ok w) (hx : (100 : Int) < nd.size ∨ ((nd.size : Int) ≤ 100 ∧ (96 : Int) < s.n) ∨ ((nd.size : Int) ≤ 100 ∧ (s.n : Int) ≤ 96 ∧ (100 : Int) < d.vs.n) ∨ ((nd.size : Int) ≤ 100 ∧ (s.n : Int) ≤ 96 ∧ (d.vs.n : Int) ≤ 100 ∧ (100 : Int) < d.nm.size)) : Calls Try.prog 6 #[.string nd, .int .i64 daily, .slice s.A s.n s.c, .int .u8 pt, d.val] w fun e w' => e = .returned (.bool true) ∧ Gr w w' := by
  have ms := Nat.le_trans hs.hc hs.hb
  have md := hd.1; have mv := Nat.le_trans hd.2.hc hd.2.hb
  clear hs hd
  unfold Ba.Inflow.val
  obtain ⟨dn, ⟨dA, dl, dc, db, do', dX⟩⟩ := d
  simp only at *
  generalize s.A = sA at *
  generalize s.n = sn at *
  generalize s.c = sc at *
  rcases hx with h1 | ⟨h1, h2⟩ | ⟨h1, h2, h3⟩ | ⟨h1, h2, h3, h4⟩
  all_goals
    go_enter Try.func6, Try.ntmps6
    go_wp2_with fail
    (first | refine name_world ?_ | refine (show (∀ W, W = _ → Calls _ _ _ W _) → Calls _ _ _ _ _ from fun h => h _ rfl) ?_); intro W1 hW1
    have g1 : Gr w W1 := by rw [hW1]; exact gr_auto
    have k1_0 : W1.cell? ⟨w.heap.size, 0, none⟩ = some (.string dn) := by rw [hW1]; first | (simp [go_sem, *]; done) | (refine Gr.at ?_ (by assumption); exact gr_auto)
    have b1_0 : w.heap.size < W1.heap.size := World.block_lt_of_cell? _ _ k1_0
    have k1_1 : W1.cell? ⟨w.heap.size, 1, none⟩ = some (.slice dA dl dc) := by rw [hW1]; first | (simp [go_sem, *]; done) | (refine Gr.at ?_ (by assumption); exact gr_auto)
    clear hW1
    refine (awake_any _).mono ?_
    rintro e w2 ⟨rfl, hb2⟩
    have g2 := g1.trans hb2
    have d0 := Gr.at hb2 k1_0; have d1 := Gr.at hb2 k1_1
    clear k1_0 k1_1
    go_wp2_with fail
    go_ret
    exact ⟨rfl, g2⟩
theorem days_k (pt : Int) (hp : 0 ≤ pt ∧ pt ≤ 255) : ∃ K : Nat, DaysK pt K ∧ (1 ≤ K ∧ K ≤ 24) ∧ (K : Int) * (86400 / (K : Int)) = 86400 := by
  have h : (pt % 8).toNat < 8 := by omega
  unfold DaysK
  generalize (pt % 8).toNat = i at *
  rcases (by omega : i = 0 ∨ i = 1 ∨ i = 2 ∨ i = 3 ∨ i = 4 ∨ i = 5 ∨ i = 6 ∨ i = 7) with rfl | rfl | rfl | rfl | rfl | rfl | rfl | rfl
  · exact ⟨1, rfl, by decide, by decide⟩
  · exact ⟨2, rfl, by decide, by decide⟩
  · exact ⟨3, rfl, by decide, by decide⟩
  · exact ⟨4, rfl, by decide, by decide⟩
  · exact ⟨6, rfl, by decide, by decide⟩
  · exact ⟨8, rfl, by decide, by decide⟩
  · exact ⟨12, rfl, by decide, by decide⟩
  · exact ⟨24, rfl, by decide, by decide⟩
theorem days_law (nd : ByteArray) (daily : Int) (s : Ba.SlI) (pt : Int) (d : Ba.Inflow) (w : World) (hm : nd.size ≤ 9223372036854775807) (_ : -9223372036854775808 ≤ daily ∧ daily ≤ 9223372036854775807) (hs : s.At w) (hp : 0 ≤ pt ∧ pt ≤ 255) (hd : d.Ok w) : Calls Try.prog 6 #[.string nd, .int .i64 daily, .slice s.A s.n s.c, .int .u8 pt, d.val] w fun e w' => e = .returned (.bool true) ∧ Gr w w' := by
  by_cases a1 : (100 : Int) < nd.size
  · exact days_f nd daily s pt d w hs hm hd (.inl a1)
  by_cases a2 : (96 : Int) < s.n
  · exact days_f nd daily s pt d w hs hm hd (.inr (.inl ⟨by omega, a2⟩))
  by_cases a3 : (100 : Int) < d.vs.n
  · exact days_f nd daily s pt d w hs hm hd (.inr (.inr (.inl ⟨by omega, by omega, a3⟩)))
  by_cases a4 : (100 : Int) < d.nm.size
  · exact days_f nd daily s pt d w hs hm hd (.inr (.inr (.inr ⟨by omega, by omega, by omega, a4⟩)))
  obtain ⟨K, k1, k2, k3⟩ := days_k pt hp
  obtain ⟨st, hst⟩ : ∃ z, 86400 / (K : Int) = z := ⟨_, rfl⟩
  rw [hst] at k3
  by_cases he : Ba.dryE nd daily st (2 * (K : Int)) s = 0
  · exact days_ok nd daily s pt d K st w hs hm hd (by omega) (by omega) (by omega) (by omega) hp k1 k2 (Lib.hid hst) k3 he
  · exact days_no nd daily s pt d K st _ w hs hm hd (by omega) (by omega) (by omega) (by omega) hp k1 k2 (Lib.hid hst) he (Lib.hid fun W hW => dry_no nd s daily st (2 * (K : Int)) W hm (hs.gr hW) he)
end Go.Proofs.Ytjighhphadfoiaa
