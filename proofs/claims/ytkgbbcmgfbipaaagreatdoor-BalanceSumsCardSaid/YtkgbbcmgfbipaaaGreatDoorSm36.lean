/-
  Lists of ledgers: listed, the reference's Listed and Same, Through. (Printed by mklist.py.)
-/
import Derived.Test.YtkgbbcmgfbipaaaGreatDoorSm27
import Derived.Test.YtkgbbcmgfbipaaaGreatDoorSm28
import Derived.Test.YtkgbbcmgfbipaaaGreatDoorSm35

set_option linter.unusedVariables false
set_option linter.unusedSimpArgs false
namespace Go.Proofs.YtkgbbcmgfbipaaaGreatDoor
open Go.RowKit
namespace Ba
/-- All ledgers are valid; what is wrong with a list. -/
def ledsB (L : SlLink) (G : SlLedger) : Bool := allB (fun i => ledgB L (G.D i)) G.n
def lstE (N : SlNode) (L : SlLink) (G : SlLedger) : Int := if netB N L = false then 1 else if ledsB L G = false then 1 else if 10000 < G.n then 4 else 0
/-- What passed a link altogether. -/
def thrI (G : SlLedger) (k : Nat) (i : Nat) : Int := sumI (fun j => (G.D j).ps.X k) i
def thrOk (G : SlLedger) (k : Nat) : Bool := allB (fun i => decide (thrI G k (i + 1) ≤ 9007199254740992)) G.n
def thrE (N : SlNode) (L : SlLink) (G : SlLedger) (t : ByteArray) : Int := if lstE N L G = 0 then if lix L t < 0 then 9 else if thrOk G (lix L t).toNat = true then 0 else 5 else lstE N L G
def thrV (N : SlNode) (L : SlLink) (G : SlLedger) (t : ByteArray) : Int := if thrE N L G t = 0 then thrI G (lix L t).toNat G.n else 0
/-- Two ledgers are the same. -/
def sameB (a b : Ledger) : Bool := (a.inn == b.inn) && ((a.out == b.out) && (decide (a.ps.n = b.ps.n) && allB (fun i => a.ps.X i == b.ps.X i) a.ps.n))
end Ba
set_option maxRecDepth 100000 in
set_option maxHeartbeats 4000000 in
theorem listf_any (N : Ba.SlNode) (L : Ba.SlLink) (g : Ba.Ledger) (B : Nat) (w : World) (hl : L.n ≤ 9223372036854775807) (h0 : w.cell? ⟨B, 0, none⟩ = some (.slice N.A N.n N.c)) (h1 : w.cell? ⟨B, 1, none⟩ = some (.slice L.A L.n L.c)) (hg : g.Ok w) : Calls Tryz.prog 47 #[g.val, .pointer (some ⟨B, 0, none⟩)] w fun e w' => e = .returned (.bool (!Ba.ledgB L g)) ∧ Gr w w' := by
  have HV := Lib.hid (fun W (hh : Gr w W) => bvalid_any N L g W hl (hg.gr hh))
  have hB : B < w.heap.size := World.block_lt_of_cell? _ _ h0
  have hn : B ≠ w.heap.size := by omega
  have a0 := fun o => Gr.at (Gr.alloc (Gr.refl w) o) h0; have a1 := fun o => Gr.at (Gr.alloc (Gr.refl w) o) h1
  generalize Ba.ledgB L g = q at *
  unfold Ba.netVal Ba.Ledger.val at *
  clear hg hl
  generalize N.A = A at *; generalize N.n = n at *; generalize N.c = c at *
  generalize L.A = A2 at *; generalize L.n = n2 at *; generalize L.c = c2 at *
  go_enter Tryz.func47, Tryz.ntmps47
  go_wp2_with fail
  refine (HV.out _ gr_auto).mono ?_
  rintro e w1 ⟨rfl, hb1⟩
  go_wp2_with fail
  go_ret
  exact ⟨rfl, gr_auto⟩
set_option maxRecDepth 100000 in
set_option maxHeartbeats 4000000 in
theorem listed_v (A A2 LA : Option Addr) (n c n2 c2 ln lc : Nat) (w : World) (HV : Hid (∀ W, Gr w W → Calls Tryz.prog 30 #[.agg #[.slice A n c, .slice A2 n2 c2]] W fun e w' => e = .returned (.bool false) ∧ Gr W w')) : Calls Tryz.prog 25 #[.agg #[.slice A n c, .slice A2 n2 c2], .slice LA ln lc] w (fun e w' => e = .returned (.int .i64 1) ∧ Gr w w') := by
  go_enter Tryz.func25, Tryz.ntmps25
  go_wp2_with fail
  (first | refine name_world ?_ | refine (show (∀ W, W = _ → Calls _ _ _ W _) → Calls _ _ _ _ _ from fun h => h _ rfl) ?_); intro W1 hW1
  have g1 : Gr w W1 := by rw [hW1]; exact gr_auto
  have k1_0 : W1.cell? ⟨w.heap.size, 0, none⟩ = some (.slice A n c) := by rw [hW1]; first | (simp [go_sem, *]; done) | (refine Gr.at ?_ (by assumption); exact gr_auto)
  have b1_0 : w.heap.size < W1.heap.size := World.block_lt_of_cell? _ _ k1_0
  have k1_1 : W1.cell? ⟨w.heap.size, 1, none⟩ = some (.slice A2 n2 c2) := by rw [hW1]; first | (simp [go_sem, *]; done) | (refine Gr.at ?_ (by assumption); exact gr_auto)
  clear hW1
  refine (HV.out _ g1).mono ?_
  rintro e w2 ⟨rfl, hb2⟩
  have g2 := g1.trans hb2
  have k1_0 := Gr.at (w1 := w2) gr_auto k1_0; have k1_1 := Gr.at (w1 := w2) gr_auto k1_1
  go_wp2_with fail
  go_ret
  exact ⟨rfl, gr_auto⟩
set_option maxRecDepth 100000 in
set_option maxHeartbeats 4000000 in
theorem listed_i (A A2 LA : Option Addr) (n c n2 c2 ln lc : Nat) (w : World) (HV : Hid (∀ W, Gr w W → Calls Tryz.prog 30 #[.agg #[.slice A n c, .slice A2 n2 c2]] W fun e w' => e = .returned (.bool true) ∧ Gr W w')) (HH : Hid (∀ B W, Gr w W → W.cell? ⟨B, 0, none⟩ = some (.slice A n c) → W.cell? ⟨B, 1, none⟩ = some (.slice A2 n2 c2) → Calls Tryz.prog 6 #[.slice LA ln lc, .func (.func 47) #[] #[.pointer (some ⟨B, 0, none⟩)]] W fun e w' => e = .returned (.bool true) ∧ Gr W w')) : Calls Tryz.prog 25 #[.agg #[.slice A n c, .slice A2 n2 c2], .slice LA ln lc] w (fun e w' => e = .returned (.int .i64 1) ∧ Gr w w') := by
  go_enter Tryz.func25, Tryz.ntmps25
  go_wp2_with fail
  (first | refine name_world ?_ | refine (show (∀ W, W = _ → Calls _ _ _ W _) → Calls _ _ _ _ _ from fun h => h _ rfl) ?_); intro W1 hW1
  have g1 : Gr w W1 := by rw [hW1]; exact gr_auto
  have k1_0 : W1.cell? ⟨w.heap.size, 0, none⟩ = some (.slice A n c) := by rw [hW1]; first | (simp [go_sem, *]; done) | (refine Gr.at ?_ (by assumption); exact gr_auto)
  have b1_0 : w.heap.size < W1.heap.size := World.block_lt_of_cell? _ _ k1_0
  have k1_1 : W1.cell? ⟨w.heap.size, 1, none⟩ = some (.slice A2 n2 c2) := by rw [hW1]; first | (simp [go_sem, *]; done) | (refine Gr.at ?_ (by assumption); exact gr_auto)
  clear hW1
  refine (HV.out _ g1).mono ?_
  rintro e w2 ⟨rfl, hb2⟩
  have g2 := g1.trans hb2
  have k1_0 := Gr.at (w1 := w2) gr_auto k1_0; have k1_1 := Gr.at (w1 := w2) gr_auto k1_1
  go_wp2_with fail
  refine (HH.out _ _ (by first | exact g2 | exact gr_auto) (by first | exact k1_0 | simp [go_sem, *]) (by first | exact k1_1 | simp [go_sem, *])).mono ?_
  rintro e w3 ⟨rfl, hb3⟩
  go_wp2_with fail
  go_ret
  exact ⟨rfl, gr_auto⟩
set_option maxRecDepth 100000 in
set_option maxHeartbeats 4000000 in
theorem listed_f (A A2 LA : Option Addr) (n c n2 c2 ln lc : Nat) (w : World) (HV : Hid (∀ W, Gr w W → Calls Tryz.prog 30 #[.agg #[.slice A n c, .slice A2 n2 c2]] W fun e w' => e = .returned (.bool true) ∧ Gr W w')) (HH : Hid (∀ B W, Gr w W → W.cell? ⟨B, 0, none⟩ = some (.slice A n c) → W.cell? ⟨B, 1, none⟩ = some (.slice A2 n2 c2) → Calls Tryz.prog 6 #[.slice LA ln lc, .func (.func 47) #[] #[.pointer (some ⟨B, 0, none⟩)]] W fun e w' => e = .returned (.bool false) ∧ Gr W w')) (hm : ln ≤ 9223372036854775807) (t0 : decide ((10000 : Int) < (ln : Int)) = true) : Calls Tryz.prog 25 #[.agg #[.slice A n c, .slice A2 n2 c2], .slice LA ln lc] w (fun e w' => e = .returned (.int .i64 4) ∧ Gr w w') := by
  go_enter Tryz.func25, Tryz.ntmps25
  go_wp2_with fail
  (first | refine name_world ?_ | refine (show (∀ W, W = _ → Calls _ _ _ W _) → Calls _ _ _ _ _ from fun h => h _ rfl) ?_); intro W1 hW1
  have g1 : Gr w W1 := by rw [hW1]; exact gr_auto
  have k1_0 : W1.cell? ⟨w.heap.size, 0, none⟩ = some (.slice A n c) := by rw [hW1]; first | (simp [go_sem, *]; done) | (refine Gr.at ?_ (by assumption); exact gr_auto)
  have b1_0 : w.heap.size < W1.heap.size := World.block_lt_of_cell? _ _ k1_0
  have k1_1 : W1.cell? ⟨w.heap.size, 1, none⟩ = some (.slice A2 n2 c2) := by rw [hW1]; first | (simp [go_sem, *]; done) | (refine Gr.at ?_ (by assumption); exact gr_auto)
  clear hW1
  refine (HV.out _ g1).mono ?_
  rintro e w2 ⟨rfl, hb2⟩
  have g2 := g1.trans hb2
  have k1_0 := Gr.at (w1 := w2) gr_auto k1_0; have k1_1 := Gr.at (w1 := w2) gr_auto k1_1
  go_wp2_with fail
  refine (HH.out _ _ (by first | exact g2 | exact gr_auto) (by first | exact k1_0 | simp [go_sem, *]) (by first | exact k1_1 | simp [go_sem, *])).mono ?_
  rintro e w3 ⟨rfl, hb3⟩
  go_wp2_with fail
  go_ret
  exact ⟨rfl, gr_auto⟩
set_option maxRecDepth 100000 in
set_option maxHeartbeats 4000000 in
theorem listed_o (A A2 LA : Option Addr) (n c n2 c2 ln lc : Nat) (w : World) (HV : Hid (∀ W, Gr w W → Calls Tryz.prog 30 #[.agg #[.slice A n c, .slice A2 n2 c2]] W fun e w' => e = .returned (.bool true) ∧ Gr W w')) (HH : Hid (∀ B W, Gr w W → W.cell? ⟨B, 0, none⟩ = some (.slice A n c) → W.cell? ⟨B, 1, none⟩ = some (.slice A2 n2 c2) → Calls Tryz.prog 6 #[.slice LA ln lc, .func (.func 47) #[] #[.pointer (some ⟨B, 0, none⟩)]] W fun e w' => e = .returned (.bool false) ∧ Gr W w')) (hm : ln ≤ 9223372036854775807) (t0 : decide ((10000 : Int) < (ln : Int)) = false) : Calls Tryz.prog 25 #[.agg #[.slice A n c, .slice A2 n2 c2], .slice LA ln lc] w (fun e w' => e = .returned (.int .i64 0) ∧ Gr w w') := by
  go_enter Tryz.func25, Tryz.ntmps25
  go_wp2_with fail
  (first | refine name_world ?_ | refine (show (∀ W, W = _ → Calls _ _ _ W _) → Calls _ _ _ _ _ from fun h => h _ rfl) ?_); intro W1 hW1
  have g1 : Gr w W1 := by rw [hW1]; exact gr_auto
  have k1_0 : W1.cell? ⟨w.heap.size, 0, none⟩ = some (.slice A n c) := by rw [hW1]; first | (simp [go_sem, *]; done) | (refine Gr.at ?_ (by assumption); exact gr_auto)
  have b1_0 : w.heap.size < W1.heap.size := World.block_lt_of_cell? _ _ k1_0
  have k1_1 : W1.cell? ⟨w.heap.size, 1, none⟩ = some (.slice A2 n2 c2) := by rw [hW1]; first | (simp [go_sem, *]; done) | (refine Gr.at ?_ (by assumption); exact gr_auto)
  clear hW1
  refine (HV.out _ g1).mono ?_
  rintro e w2 ⟨rfl, hb2⟩
  have g2 := g1.trans hb2
  have k1_0 := Gr.at (w1 := w2) gr_auto k1_0; have k1_1 := Gr.at (w1 := w2) gr_auto k1_1
  go_wp2_with fail
  refine (HH.out _ _ (by first | exact g2 | exact gr_auto) (by first | exact k1_0 | simp [go_sem, *]) (by first | exact k1_1 | simp [go_sem, *])).mono ?_
  rintro e w3 ⟨rfl, hb3⟩
  go_wp2_with fail
  go_ret
  exact ⟨rfl, gr_auto⟩
theorem listed_any (N : Ba.SlNode) (L : Ba.SlLink) (G : Ba.SlLedger) (w : World) (hN : N.At w) (hL : L.At w) (hG : G.At w) : Calls Tryz.prog 25 #[Ba.netVal N L, .slice G.A G.n G.c] w (fun e w' => e = .returned (.int .i64 (Ba.lstE N L G)) ∧ Gr w w') := by
  have HV := Lib.hid (fun W (hh : Gr w W) => netvalid_any N L W (hN.gr hh) (hL.gr hh))
  have hl := Nat.le_trans hL.hc hL.hb
  have HH := Lib.hid (fun B W (hh : Gr w W) h0 h1 => has_ledger 47 #[.pointer (some ⟨B, 0, none⟩)] G (fun i => !Ba.ledgB L (G.D i)) W (hG.gr hh) (enter_of Tryz.func47 (by kernel_rfl) (by kernel_rfl)) fun i hi W' hW => listf_any N L (G.D i) B W' hl (Gr.at hW h0) (Gr.at hW h1) (((hG.gr hh).hD i hi).2.gr hW))
  have e : Ba.any (fun i => !Ba.ledgB L (G.D i)) G.n = !Ba.ledsB L G := by
    unfold Ba.ledsB; rw [← Ba.any_not, Bool.not_not]
  rw [e] at HH
  have hm := Nat.le_trans hG.hc hG.hb
  unfold Ba.lstE
  cases hv : Ba.netB N L
  · rw [if_pos rfl]
    rw [hv] at HV
    exact listed_v N.A L.A G.A N.n N.c L.n L.c G.n G.c w HV
  rw [if_neg (by decide)]
  rw [hv] at HV
  cases hq : Ba.ledsB L G
  · rw [if_pos rfl]
    rw [hq] at HH
    exact listed_i N.A L.A G.A N.n N.c L.n L.c G.n G.c w HV HH
  rw [if_neg (by decide)]
  rw [hq] at HH
  by_cases h : 10000 < G.n
  · rw [if_pos h]
    exact listed_f N.A L.A G.A N.n N.c L.n L.c G.n G.c w HV HH hm (decide_eq_true (by omega))
  · rw [if_neg h]
    exact listed_o N.A L.A G.A N.n N.c L.n L.c G.n G.c w HV HH hm (decide_eq_false (by omega))
set_option maxRecDepth 100000 in
set_option maxHeartbeats 4000000 in
theorem rlisted_v (A A2 LA : Option Addr) (n c n2 c2 ln lc : Nat) (w : World) (HV : Hid (∀ W, Gr w W → Calls Tryz.prog 14 #[.agg #[.slice A n c, .slice A2 n2 c2]] W fun e w' => e = .returned (.bool false) ∧ Gr W w')) : Calls Tryz.prog 27 #[.agg #[.slice A n c, .slice A2 n2 c2], .slice LA ln lc] w (fun e w' => e = .returned (.int .i64 1) ∧ Gr w w') := by
  go_enter Tryz.func27, Tryz.ntmps27
  go_wp2_with fail
  (first | refine name_world ?_ | refine (show (∀ W, W = _ → Calls _ _ _ W _) → Calls _ _ _ _ _ from fun h => h _ rfl) ?_); intro W1 hW1
  have g1 : Gr w W1 := by rw [hW1]; exact gr_auto
  have k1_0 : W1.cell? ⟨w.heap.size, 0, none⟩ = some (.slice A n c) := by rw [hW1]; first | (simp [go_sem, *]; done) | (refine Gr.at ?_ (by assumption); exact gr_auto)
  have b1_0 : w.heap.size < W1.heap.size := World.block_lt_of_cell? _ _ k1_0
  have k1_1 : W1.cell? ⟨w.heap.size, 1, none⟩ = some (.slice A2 n2 c2) := by rw [hW1]; first | (simp [go_sem, *]; done) | (refine Gr.at ?_ (by assumption); exact gr_auto)
  clear hW1
  refine (HV.out _ g1).mono ?_
  rintro e w2 ⟨rfl, hb2⟩
  have g2 := g1.trans hb2
  have k1_0 := Gr.at (w1 := w2) gr_auto k1_0; have k1_1 := Gr.at (w1 := w2) gr_auto k1_1
  go_wp2_with fail
  go_ret
  exact ⟨rfl, gr_auto⟩
set_option maxRecDepth 100000 in
set_option maxHeartbeats 4000000 in
theorem rlisted_l (A A2 LA : Option Addr) (n c n2 c2 ln lc : Nat) (w : World) (lb lo : Nat) (D : Nat → Ba.Ledger) (q : Nat → Bool) (ec : Int) (hm : ln ≤ 9223372036854775807) (LA0 : Hid (0 < ln → LA = some ⟨lb, lo, none⟩)) (LX : Hid (∀ i, i < ln → (D i).Cells w lb (lo + i * 3))) (HV : Hid (∀ W, Gr w W → Calls Tryz.prog 14 #[.agg #[.slice A n c, .slice A2 n2 c2]] W fun e w' => e = .returned (.bool true) ∧ Gr W w')) (HR : Hid (∀ i, i < ln → ∀ W, Gr w W → Calls Tryz.prog 15 #[.agg #[.slice A n c, .slice A2 n2 c2], (D i).val] W fun e w' => e = .returned (.bool (q i)) ∧ Gr W w'))
    (hres : Hid (Ba.allB q ln = false → ec = 1)) (hok : Hid (Ba.allB q ln = true → (decide ((10000 : Int) < (ln : Int)) = true → ec = 4) ∧ (decide ((10000 : Int) < (ln : Int)) = false → ec = 0))) : Calls Tryz.prog 27 #[.agg #[.slice A n c, .slice A2 n2 c2], .slice LA ln lc] w (fun e w' => e = .returned (.int .i64 ec) ∧ Gr w w') := by
  go_enter Tryz.func27, Tryz.ntmps27
  go_wp2_with fail
  (first | refine name_world ?_ | refine (show (∀ W, W = _ → Calls _ _ _ W _) → Calls _ _ _ _ _ from fun h => h _ rfl) ?_); intro W1 hW1
  have g1 : Gr w W1 := by rw [hW1]; exact gr_auto
  have k1_0 : W1.cell? ⟨w.heap.size, 0, none⟩ = some (.slice A n c) := by rw [hW1]; first | (simp [go_sem, *]; done) | (refine Gr.at ?_ (by assumption); exact gr_auto)
  have b1_0 : w.heap.size < W1.heap.size := World.block_lt_of_cell? _ _ k1_0
  have k1_1 : W1.cell? ⟨w.heap.size, 1, none⟩ = some (.slice A2 n2 c2) := by rw [hW1]; first | (simp [go_sem, *]; done) | (refine Gr.at ?_ (by assumption); exact gr_auto)
  clear hW1
  refine (HV.out _ g1).mono ?_
  rintro e w2 ⟨rfl, hb2⟩
  have g2 := g1.trans hb2
  have k1_0 := Gr.at (w1 := w2) gr_auto k1_0; have k1_1 := Gr.at (w1 := w2) gr_auto k1_1
  go_wp2_with fail
  go_loopw [5] (fun x wr => ∃ i : Nat, i ≤ ln ∧ x = .int .i64 (i : Int) ∧ Hid (Ba.allB q i = true) ∧ Gr w2 wr) (fun x _ => ln - (intOf x).toNat)
  case atStart => exact ⟨0, Nat.zero_le _, rfl, Lib.hid rfl, Gr.refl _⟩
  case round =>
    obtain ⟨i, hi, rfl, HQ, hg⟩ := hrel
    have gr : Gr w wr := g2.trans hg
    have k0 := Gr.at hg k1_0; have k1 := Gr.at hg k1_1
    by_cases hlt : i < ln
    · obtain rfl := LA0.out (by omega)
      obtain ⟨a0, a1, a2⟩ := (LX.out i hlt).gr gr
      have ib0 : (0 : Int) ≤ (i : Int) := by omega
      have ib1 : (i : Int) < (ln : Int) := by omega
      have HRi := Lib.hid (fun W hW => HR.out i hlt W hW)
      unfold Ba.Ledger.val at HRi
      cases hq : q i
      · have HZ := Lib.hid (hres.out (Ba.allB_stop hlt hq))
        rw [hq] at HRi
        clear HR LX hq HQ
        generalize D i = d at *
        go_wp2_with fail
        (first | refine name_world ?_ | refine (show (∀ W, W = _ → Calls _ _ _ W _) → Calls _ _ _ _ _ from fun h => h _ rfl) ?_); intro W3 hW3
        have g3 : Gr w W3 := by rw [hW3]; exact gr_auto
        have gb3_wr : Gr wr W3 := by (try clear g3); rw [hW3]; exact gr_auto
        have k3_0 : W3.cell? ⟨w.heap.size, 0, none⟩ = some (.slice A n c) := by rw [hW3]; first | (simp [go_sem, *]; done) | (refine Gr.at ?_ (by assumption); exact gr_auto)
        have b3_0 : w.heap.size < W3.heap.size := World.block_lt_of_cell? _ _ k3_0
        have k3_1 : W3.cell? ⟨w.heap.size, 1, none⟩ = some (.slice A2 n2 c2) := by rw [hW3]; first | (simp [go_sem, *]; done) | (refine Gr.at ?_ (by assumption); exact gr_auto)
        have k3_2 : W3.cell? ⟨lb, lo + i * 3, none⟩ = some (.int .i64 d.inn) := by rw [hW3]; first | (simp [go_sem, *]; done) | (refine Gr.at ?_ (by assumption); exact gr_auto)
        have b3_2 : lb < W3.heap.size := World.block_lt_of_cell? _ _ k3_2
        have k3_3 : W3.cell? ⟨lb, lo + i * 3 + 1, none⟩ = some (.int .i64 d.out) := by rw [hW3]; first | (simp [go_sem, *]; done) | (refine Gr.at ?_ (by assumption); exact gr_auto)
        have k3_4 : W3.cell? ⟨lb, lo + i * 3 + 2, none⟩ = some (.slice d.ps.A d.ps.n d.ps.c) := by rw [hW3]; first | (simp [go_sem, *]; done) | (refine Gr.at ?_ (by assumption); exact gr_auto)
        clear hW3
        have s3_0 : ∀ gw : GW W3, gw.1.cell? ⟨w.heap.size, 0, none⟩ = some (.slice A n c) := fun gw => Gr.at gw.2 k3_0
        have s3_1 : ∀ gw : GW W3, gw.1.cell? ⟨w.heap.size, 1, none⟩ = some (.slice A2 n2 c2) := fun gw => Gr.at gw.2 k3_1
        have s3_2 : ∀ gw : GW W3, gw.1.cell? ⟨lb, lo + i * 3, none⟩ = some (.int .i64 d.inn) := fun gw => Gr.at gw.2 k3_2
        have s3_3 : ∀ gw : GW W3, gw.1.cell? ⟨lb, lo + i * 3 + 1, none⟩ = some (.int .i64 d.out) := fun gw => Gr.at gw.2 k3_3
        have s3_4 : ∀ gw : GW W3, gw.1.cell? ⟨lb, lo + i * 3 + 2, none⟩ = some (.slice d.ps.A d.ps.n d.ps.c) := fun gw => Gr.at gw.2 k3_4
        have HA4 := Lib.hid (fun gw : GW W3 => gw_call (HRi.out gw.1 (g3.trans gw.2)))
        refine wp_region_gr (by kernel_rfl) (by kernel_rfl) ?_
        repeat (go_big_quiet_step ((go_at_call 15; exact HA4.out _)))
        refine wpQuiet_nil ?_
        intro w4 hb4
        clear s3_0 s3_1 s3_2 s3_3 s3_4
        have g4 : Gr w w4 := g3.trans hb4
        have k3_0 := Gr.at hb4 k3_0
        have k3_1 := Gr.at hb4 k3_1
        have k3_2 := Gr.at hb4 k3_2
        have k3_3 := Gr.at hb4 k3_3
        have k3_4 := Gr.at hb4 k3_4
        go_wp2_with fail
        go_ret
        exact ⟨by (rw [HZ.out]; try rfl), gr_auto⟩
      · have HQ2 := Lib.hid (Ba.allB_go HQ.out hq)
        rw [hq] at HRi
        clear HR LX hq HQ
        generalize D i = d at *
        go_wp2_with fail
        (first | refine name_world ?_ | refine (show (∀ W, W = _ → Calls _ _ _ W _) → Calls _ _ _ _ _ from fun h => h _ rfl) ?_); intro W3 hW3
        have g3 : Gr w W3 := by rw [hW3]; exact gr_auto
        have gb3_wr : Gr wr W3 := by (try clear g3); rw [hW3]; exact gr_auto
        have k3_0 : W3.cell? ⟨w.heap.size, 0, none⟩ = some (.slice A n c) := by rw [hW3]; first | (simp [go_sem, *]; done) | (refine Gr.at ?_ (by assumption); exact gr_auto)
        have b3_0 : w.heap.size < W3.heap.size := World.block_lt_of_cell? _ _ k3_0
        have k3_1 : W3.cell? ⟨w.heap.size, 1, none⟩ = some (.slice A2 n2 c2) := by rw [hW3]; first | (simp [go_sem, *]; done) | (refine Gr.at ?_ (by assumption); exact gr_auto)
        have k3_2 : W3.cell? ⟨lb, lo + i * 3, none⟩ = some (.int .i64 d.inn) := by rw [hW3]; first | (simp [go_sem, *]; done) | (refine Gr.at ?_ (by assumption); exact gr_auto)
        have b3_2 : lb < W3.heap.size := World.block_lt_of_cell? _ _ k3_2
        have k3_3 : W3.cell? ⟨lb, lo + i * 3 + 1, none⟩ = some (.int .i64 d.out) := by rw [hW3]; first | (simp [go_sem, *]; done) | (refine Gr.at ?_ (by assumption); exact gr_auto)
        have k3_4 : W3.cell? ⟨lb, lo + i * 3 + 2, none⟩ = some (.slice d.ps.A d.ps.n d.ps.c) := by rw [hW3]; first | (simp [go_sem, *]; done) | (refine Gr.at ?_ (by assumption); exact gr_auto)
        clear hW3
        have s3_0 : ∀ gw : GW W3, gw.1.cell? ⟨w.heap.size, 0, none⟩ = some (.slice A n c) := fun gw => Gr.at gw.2 k3_0
        have s3_1 : ∀ gw : GW W3, gw.1.cell? ⟨w.heap.size, 1, none⟩ = some (.slice A2 n2 c2) := fun gw => Gr.at gw.2 k3_1
        have s3_2 : ∀ gw : GW W3, gw.1.cell? ⟨lb, lo + i * 3, none⟩ = some (.int .i64 d.inn) := fun gw => Gr.at gw.2 k3_2
        have s3_3 : ∀ gw : GW W3, gw.1.cell? ⟨lb, lo + i * 3 + 1, none⟩ = some (.int .i64 d.out) := fun gw => Gr.at gw.2 k3_3
        have s3_4 : ∀ gw : GW W3, gw.1.cell? ⟨lb, lo + i * 3 + 2, none⟩ = some (.slice d.ps.A d.ps.n d.ps.c) := fun gw => Gr.at gw.2 k3_4
        have HA4 := Lib.hid (fun gw : GW W3 => gw_call (HRi.out gw.1 (g3.trans gw.2)))
        refine wp_region_gr (by kernel_rfl) (by kernel_rfl) ?_
        repeat (go_big_quiet_step ((go_at_call 15; exact HA4.out _)))
        refine wpQuiet_nil ?_
        intro w4 hb4
        clear s3_0 s3_1 s3_2 s3_3 s3_4
        have g4 : Gr w w4 := g3.trans hb4
        have k3_0 := Gr.at hb4 k3_0
        have k3_1 := Gr.at hb4 k3_1
        have k3_2 := Gr.at hb4 k3_2
        have k3_3 := Gr.at hb4 k3_3
        have k3_4 := Gr.at hb4 k3_4
        go_wp2_with fail
        go_roundw
        case rel => exact ⟨i + 1, by omega, by go_num, HQ2, (hg.trans gb3_wr).trans hb4⟩
        case measure => simp [intOf]; omega
    · obtain rfl : i = ln := by omega
      have HZ := Lib.hid (hok.out HQ.out)
      clear HR LX HQ
      cases t0 : decide ((10000 : Int) < (i : Int))
      · have HE := Lib.hid (HZ.out.2 t0)
        go_wp2_with fail
        go_ret
        exact ⟨by (rw [HE.out]; try rfl), gr_auto⟩
      · have HE := Lib.hid (HZ.out.1 t0)
        go_wp2_with fail
        go_ret
        exact ⟨by (rw [HE.out]; try rfl), gr_auto⟩
theorem rlisted_any (N : Ba.SlNode) (L : Ba.SlLink) (G : Ba.SlLedger) (w : World) (hN : N.At w) (hL : L.At w) (hG : G.At w) : Calls Tryz.prog 27 #[Ba.netVal N L, .slice G.A G.n G.c] w (fun e w' => e = .returned (.int .i64 (Ba.lstE N L G)) ∧ Gr w w') := by
  have HV := Lib.hid (fun W (hh : Gr w W) => rnetvalid_any N L W (hN.gr hh) (hL.gr hh))
  have hl := Nat.le_trans hL.hc hL.hb
  have hm := Nat.le_trans hG.hc hG.hb
  cases hv : Ba.netB N L
  · rw [hv] at HV
    have e : Ba.lstE N L G = 1 := by unfold Ba.lstE; rw [if_pos hv]
    rw [e]
    exact rlisted_v N.A L.A G.A N.n N.c L.n L.c G.n G.c w HV
  rw [hv] at HV
  have e0 : Ba.lstE N L G = if Ba.ledsB L G = false then 1 else if 10000 < G.n then 4 else 0 := by unfold Ba.lstE; rw [if_neg (by rw [hv]; decide)]
  refine rlisted_l N.A L.A G.A N.n N.c L.n L.c G.n G.c w G.b G.o G.D (fun i => Ba.ledgB L (G.D i)) _ hm (Lib.hid hG.hA) (Lib.hid fun i hi => (hG.hD i hi).1) HV (Lib.hid fun i hi W hh => rvalid_any N L (G.D i) W hl ((hG.gr hh).hD i hi).2) (Lib.hid fun h => ?_) (Lib.hid fun h => ⟨fun t => ?_, fun t => ?_⟩)
  · rw [e0, if_pos (show Ba.ledsB L G = false from h)]
  · rw [e0, if_neg (by rw [show Ba.ledsB L G = true from h]; decide), if_pos (by have := of_decide_eq_true t; omega)]
  · rw [e0, if_neg (by rw [show Ba.ledsB L G = true from h]; decide), if_neg (by have := of_decide_eq_false t; omega)]
set_option maxRecDepth 100000 in
set_option maxHeartbeats 4000000 in
theorem same_any (a b : Ba.Ledger) (w : World) (ha : a.Ok w) (hb : b.Ok w) : Calls Tryz.prog 12 #[a.val, b.val] w fun e w' => e = .returned (.bool (Ba.sameB a b)) ∧ Gr w w' := by
  obtain ⟨-, -, pa⟩ := ha
  obtain ⟨-, -, pb⟩ := hb
  have m1 := Nat.le_trans pa.hc pa.hb; have m2 := Nat.le_trans pb.hc pb.hb
  have A1 := Lib.hid pa.hA; have X1 := Lib.hid pa.hX; have A2 := Lib.hid pb.hA; have X2 := Lib.hid pb.hX
  clear pa pb
  have hr : Ba.sameB a b = ((a.inn == b.inn) && ((a.out == b.out) && (decide (a.ps.n = b.ps.n) && Ba.allB (fun i => a.ps.X i == b.ps.X i) a.ps.n))) := rfl
  generalize Ba.sameB a b = r at *
  unfold Ba.Ledger.val
  obtain ⟨i1, o1, ⟨PA, pn, pc, pb, po, PX⟩⟩ := a
  obtain ⟨i2, o2, ⟨QA, qn, qc, qb, qo, QX⟩⟩ := b
  simp only at *
  have z0 : decide (pn = qn) = ((pn : Int) == (qn : Int)) := by rw [Bool.eq_iff_iff]; simp; omega
  rw [z0] at hr
  clear z0
  cases t0 : (i1 == i2)
  · have t0' : (i1 != i2) = true := by simp only [bne, t0]; rfl
    rw [t0, Bool.false_and] at hr
    subst hr
    clear t0
    go_enter Tryz.func12, Tryz.ntmps12
    go_wp2_with fail
    go_ret
    exact ⟨rfl, gr_auto⟩
  have t0' : (i1 != i2) = false := by simp only [bne, t0]; rfl
  rw [t0, Bool.true_and] at hr
  clear t0
  cases t1 : (o1 == o2)
  · have t1' : (o1 != o2) = true := by simp only [bne, t1]; rfl
    rw [t1, Bool.false_and] at hr
    subst hr
    clear t1
    go_enter Tryz.func12, Tryz.ntmps12
    go_wp2_with fail
    go_ret
    exact ⟨rfl, gr_auto⟩
  have t1' : (o1 != o2) = false := by simp only [bne, t1]; rfl
  rw [t1, Bool.true_and] at hr
  clear t1
  cases t2 : ((pn : Int) == (qn : Int))
  · have t2' : ((pn : Int) != (qn : Int)) = true := by simp only [bne, t2]; rfl
    rw [t2, Bool.false_and] at hr
    subst hr
    clear t2
    go_enter Tryz.func12, Tryz.ntmps12
    go_wp2_with fail
    go_ret
    exact ⟨rfl, gr_auto⟩
  have hpq : pn = qn := by have := eq_of_beq t2; omega
  rw [t2, Bool.true_and] at hr
  clear t2
  subst hpq
  have t2' : ((pn : Int) != (pn : Int)) = false := by simp
  go_enter Tryz.func12, Tryz.ntmps12
  go_wp2_with fail
  (first | refine name_world ?_ | refine (show (∀ W, W = _ → Calls _ _ _ W _) → Calls _ _ _ _ _ from fun h => h _ rfl) ?_); intro W1 hW1
  have g1 : Gr w W1 := by rw [hW1]; exact gr_auto
  have k1_0 : W1.cell? ⟨w.heap.size, 2, none⟩ = some (.slice PA pn pc) := by rw [hW1]; first | (simp [go_sem, *]; done) | (refine Gr.at ?_ (by assumption); exact gr_auto)
  have b1_0 : w.heap.size < W1.heap.size := World.block_lt_of_cell? _ _ k1_0
  have k1_1 : W1.cell? ⟨w.heap.size + 1, 2, none⟩ = some (.slice QA pn qc) := by rw [hW1]; first | (simp [go_sem, *]; done) | (refine Gr.at ?_ (by assumption); exact gr_auto)
  have b1_1 : w.heap.size + 1 < W1.heap.size := World.block_lt_of_cell? _ _ k1_1
  clear hW1
  go_loopw [5] (fun x wr => ∃ i : Nat, i ≤ pn ∧ x = .int .i64 (i : Int) ∧ Hid (Ba.allB (fun i => PX i == QX i) i = true) ∧ Gr W1 wr) (fun x _ => pn - (intOf x).toNat)
  case atStart => exact ⟨0, Nat.zero_le _, rfl, Lib.hid rfl, Gr.refl _⟩
  case round =>
    obtain ⟨i, hi, rfl, HQ, hg⟩ := hrel
    have gr : Gr w wr := g1.trans hg
    have k0 := Gr.at hg k1_0; have k1 := Gr.at hg k1_1
    by_cases hlt : i < pn
    · obtain rfl := A1.out (by omega); obtain rfl := A2.out (by omega)
      have v1 := Gr.at gr (X1.out i hlt).1; have v2 := Gr.at gr (X2.out i hlt).1
      have ib0 : (0 : Int) ≤ (i : Int) := by omega
      have ib1 : (i : Int) < (pn : Int) := by omega
      cases hq : (PX i == QX i)
      · have HZ := Lib.hid (Ba.allB_stop (p := fun i => PX i == QX i) hlt hq)
        have hq' : (PX i != QX i) = true := by simp only [bne, hq]; rfl
        clear X1 X2 HQ hq
        generalize PX i = x at *
        generalize QX i = y at *
        go_wp2_with fail
        go_quiet (fail)
        go_wp2_with fail
        go_ret
        exact ⟨by (rw [hr, HZ.out]; try rfl), gr_auto⟩
      · have HQ2 := Lib.hid (Ba.allB_go (p := fun i => PX i == QX i) HQ.out hq)
        have hq' : (PX i != QX i) = false := by simp only [bne, hq]; rfl
        clear X1 X2 HQ hq
        go_wp2_with fail
        go_quiet (fail)
        go_wp2_with fail
        go_roundw
        case rel => exact ⟨i + 1, by omega, by go_num, HQ2, gr_auto⟩
        case measure => simp [intOf]; omega
    · obtain rfl : i = pn := by omega
      have HZ := HQ
      clear X1 X2 HQ
      go_wp2_with fail
      go_ret
      exact ⟨by (rw [hr, HZ.out]; try rfl), gr_auto⟩
set_option maxRecDepth 100000 in
set_option maxHeartbeats 4000000 in
theorem thr_e (A A2 LA : Option Addr) (n c n2 c2 ln lc : Nat) (t : ByteArray) (w : World) (ec : Int) (hec : ec ≠ 0) (HL : Hid (∀ W, Gr w W → Calls Tryz.prog 25 #[.agg #[.slice A n c, .slice A2 n2 c2], .slice LA ln lc] W fun e w' => e = .returned (.int .i64 ec) ∧ Gr W w')) : Calls Tryz.prog 10 #[.agg #[.slice A n c, .slice A2 n2 c2], .slice LA ln lc, .string t] w (fun e w' => e = .returned (.tuple #[.int .i64 0, .int .i64 ec]) ∧ Gr w w') := by
  have t0 : (ec != 0) = true := Ba.bne_of' hec
  clear hec
  go_enter Tryz.func10, Tryz.ntmps10
  go_wp2_with fail
  (first | refine name_world ?_ | refine (show (∀ W, W = _ → Calls _ _ _ W _) → Calls _ _ _ _ _ from fun h => h _ rfl) ?_); intro W1 hW1
  have g1 : Gr w W1 := by rw [hW1]; exact gr_auto
  have k1_0 : W1.cell? ⟨w.heap.size, 0, none⟩ = some (.slice A n c) := by rw [hW1]; first | (simp [go_sem, *]; done) | (refine Gr.at ?_ (by assumption); exact gr_auto)
  have b1_0 : w.heap.size < W1.heap.size := World.block_lt_of_cell? _ _ k1_0
  have k1_1 : W1.cell? ⟨w.heap.size, 1, none⟩ = some (.slice A2 n2 c2) := by rw [hW1]; first | (simp [go_sem, *]; done) | (refine Gr.at ?_ (by assumption); exact gr_auto)
  clear hW1
  refine (HL.out _ g1).mono ?_
  rintro e w2 ⟨rfl, hb2⟩
  have g2 := g1.trans hb2
  have k1_0 := Gr.at (w1 := w2) gr_auto k1_0; have k1_1 := Gr.at (w1 := w2) gr_auto k1_1
  go_wp2_with fail
  go_ret2
  exact ⟨rfl, gr_auto⟩
set_option maxRecDepth 100000 in
set_option maxHeartbeats 4000000 in
theorem thr_n (A A2 LA : Option Addr) (n c n2 c2 ln lc : Nat) (t : ByteArray) (w : World) (i ec : Int) (hec : ec ≠ 0) (HL : Hid (∀ W, Gr w W → Calls Tryz.prog 25 #[.agg #[.slice A n c, .slice A2 n2 c2], .slice LA ln lc] W fun e w' => e = .returned (.int .i64 0) ∧ Gr W w')) (HK : Hid (∀ W, Gr w W → Calls Tryz.prog 28 #[.agg #[.slice A n c, .slice A2 n2 c2], .string t] W fun e w' => e = .returned (.tuple #[.int .i64 i, .int .i64 ec]) ∧ Gr W w')) : Calls Tryz.prog 10 #[.agg #[.slice A n c, .slice A2 n2 c2], .slice LA ln lc, .string t] w (fun e w' => e = .returned (.tuple #[.int .i64 0, .int .i64 ec]) ∧ Gr w w') := by
  have t0 : (ec != 0) = true := Ba.bne_of' hec
  clear hec
  go_enter Tryz.func10, Tryz.ntmps10
  go_wp2_with fail
  (first | refine name_world ?_ | refine (show (∀ W, W = _ → Calls _ _ _ W _) → Calls _ _ _ _ _ from fun h => h _ rfl) ?_); intro W1 hW1
  have g1 : Gr w W1 := by rw [hW1]; exact gr_auto
  have k1_0 : W1.cell? ⟨w.heap.size, 0, none⟩ = some (.slice A n c) := by rw [hW1]; first | (simp [go_sem, *]; done) | (refine Gr.at ?_ (by assumption); exact gr_auto)
  have b1_0 : w.heap.size < W1.heap.size := World.block_lt_of_cell? _ _ k1_0
  have k1_1 : W1.cell? ⟨w.heap.size, 1, none⟩ = some (.slice A2 n2 c2) := by rw [hW1]; first | (simp [go_sem, *]; done) | (refine Gr.at ?_ (by assumption); exact gr_auto)
  clear hW1
  refine (HL.out _ g1).mono ?_
  rintro e w2 ⟨rfl, hb2⟩
  have g2 := g1.trans hb2
  have k1_0 := Gr.at (w1 := w2) gr_auto k1_0; have k1_1 := Gr.at (w1 := w2) gr_auto k1_1
  go_wp2_with fail
  refine (HK.out _ g2).mono ?_
  rintro e w3 ⟨rfl, hb3⟩
  have g3 := g2.trans hb3
  have k1_0 := Gr.at (w1 := w3) gr_auto k1_0; have k1_1 := Gr.at (w1 := w3) gr_auto k1_1
  go_wp2_with fail
  go_ret2
  exact ⟨rfl, gr_auto⟩
set_option maxRecDepth 100000 in
set_option maxHeartbeats 4000000 in
theorem thr_l (A A2 LA : Option Addr) (n c n2 c2 ln lc : Nat) (t : ByteArray) (w : World) (lb lo k : Nat) (D : Nat → Ba.Ledger) (f : Nat → Int) (v ec : Int) (hm : ln ≤ 9223372036854775807) (LA0 : Hid (0 < ln → LA = some ⟨lb, lo, none⟩)) (LX : Hid (∀ i, i < ln → (D i).Cells w lb (lo + i * 3) ∧ (k < (D i).ps.n ∧ (0 < (D i).ps.n → (D i).ps.A = some ⟨(D i).ps.b, (D i).ps.o, none⟩) ∧ (w.cell? ⟨(D i).ps.b, (D i).ps.o + k, none⟩ = some (.int .i64 ((D i).ps.X k)) ∧ (0 ≤ (D i).ps.X k ∧ (D i).ps.X k ≤ 9007199254740992)))))
    (HL : Hid (∀ W, Gr w W → Calls Tryz.prog 25 #[.agg #[.slice A n c, .slice A2 n2 c2], .slice LA ln lc] W fun e w' => e = .returned (.int .i64 0) ∧ Gr W w')) (HK : Hid (∀ W, Gr w W → Calls Tryz.prog 28 #[.agg #[.slice A n c, .slice A2 n2 c2], .string t] W fun e w' => e = .returned (.tuple #[.int .i64 (k : Int), .int .i64 0]) ∧ Gr W w')) (F0 : f 0 = 0) (FS : Hid (∀ i, f (i + 1) = f i + (D i).ps.X k)) (FB : Hid (∀ i, i ≤ ln → Ba.allB (fun i => decide (f (i + 1) ≤ 9007199254740992)) i = true → 0 ≤ f i ∧ f i ≤ 9007199254740992))
    (hno : Hid (Ba.allB (fun i => decide (f (i + 1) ≤ 9007199254740992)) ln = false → v = 0 ∧ ec = 5)) (hok : Hid (Ba.allB (fun i => decide (f (i + 1) ≤ 9007199254740992)) ln = true → v = f ln ∧ ec = 0)) : Calls Tryz.prog 10 #[.agg #[.slice A n c, .slice A2 n2 c2], .slice LA ln lc, .string t] w (fun e w' => e = .returned (.tuple #[.int .i64 v, .int .i64 ec]) ∧ Gr w w') := by
  go_enter Tryz.func10, Tryz.ntmps10
  go_wp2_with fail
  (first | refine name_world ?_ | refine (show (∀ W, W = _ → Calls _ _ _ W _) → Calls _ _ _ _ _ from fun h => h _ rfl) ?_); intro W1 hW1
  have g1 : Gr w W1 := by rw [hW1]; exact gr_auto
  have k1_0 : W1.cell? ⟨w.heap.size, 0, none⟩ = some (.slice A n c) := by rw [hW1]; first | (simp [go_sem, *]; done) | (refine Gr.at ?_ (by assumption); exact gr_auto)
  have b1_0 : w.heap.size < W1.heap.size := World.block_lt_of_cell? _ _ k1_0
  have k1_1 : W1.cell? ⟨w.heap.size, 1, none⟩ = some (.slice A2 n2 c2) := by rw [hW1]; first | (simp [go_sem, *]; done) | (refine Gr.at ?_ (by assumption); exact gr_auto)
  clear hW1
  refine (HL.out _ g1).mono ?_
  rintro e w2 ⟨rfl, hb2⟩
  have g2 := g1.trans hb2
  have k1_0 := Gr.at (w1 := w2) gr_auto k1_0; have k1_1 := Gr.at (w1 := w2) gr_auto k1_1
  go_wp2_with fail
  refine (HK.out _ g2).mono ?_
  rintro e w3 ⟨rfl, hb3⟩
  have g3 := g2.trans hb3
  have k1_0 := Gr.at (w1 := w3) gr_auto k1_0; have k1_1 := Gr.at (w1 := w3) gr_auto k1_1
  go_wp2_with fail
  go_loopw [11, 31] (fun a x wr => ∃ i : Nat, i ≤ ln ∧ x = .int .i64 (i : Int) ∧ a = .int .i64 (f i) ∧ Hid (Ba.allB (fun i => decide (f (i + 1) ≤ 9007199254740992)) i = true) ∧ Gr w3 wr) (fun _ x _ => ln - (intOf x).toNat)
  case atStart => exact ⟨0, Nat.zero_le _, rfl, by rw [F0], Lib.hid rfl, Gr.refl _⟩
  case round =>
    obtain ⟨i, hi, rfl, rfl, HQ, hg⟩ := hrel
    have gr : Gr w wr := g3.trans hg
    have k0 := Gr.at hg k1_0; have k1 := Gr.at hg k1_1
    by_cases hlt : i < ln
    · obtain rfl := LA0.out (by omega)
      obtain ⟨a0, a1, a2⟩ := (LX.out i hlt).1.gr gr
      obtain ⟨p1, p2, p3⟩ := (LX.out i hlt).2
      have v0 := Gr.at gr p3.1
      have e0 := p3.2
      rw [p2 (by omega)] at a2
      have hb1 : ((D i).ps.b) < wr.heap.size := World.block_lt_of_cell? _ _ v0
      have hb2 : ((D i).ps.b) ≠ wr.heap.size := by omega
      have ib0 : (0 : Int) ≤ (i : Int) := by omega
      have ib1 : (i : Int) < (ln : Int) := by omega
      have ib2 : (0 : Int) ≤ (k : Int) := by omega
      have ib3 : (k : Int) < ((D i).ps.n : Int) := by omega
      have fb := FB.out i hi HQ.out
      have HT := Lib.hid (FS.out i)
      clear LX FB FS p2 p3
      generalize (D i).ps.X k = x at *
      cases t0 : decide (9007199254740992 < f i + x)
      · have HQ2 := Lib.hid (Ba.allB_go (p := fun i => decide (f (i + 1) ≤ 9007199254740992)) HQ.out (decide_eq_true (by rw [HT.out]; have := of_decide_eq_false t0; omega)))
        clear HQ
        generalize f i = y at *
        generalize D i = d at *
        go_wp2_with fail
        go_roundw
        case rel => exact ⟨i + 1, by omega, by go_num, by (rw [HT.out]; try rfl), HQ2, gr_auto⟩
        case measure => simp [intOf]; omega
      · have HZ := Lib.hid (Ba.allB_stop (p := fun i => decide (f (i + 1) ≤ 9007199254740992)) hlt (decide_eq_false (by rw [HT.out]; have := of_decide_eq_true t0; omega)))
        have HE := Lib.hid (hno.out HZ.out)
        clear HQ HZ
        generalize f i = y at *
        generalize D i = d at *
        go_wp2_with fail
        go_ret2
        exact ⟨by (rw [HE.out.1, HE.out.2]; try rfl), gr_auto⟩
    · obtain rfl : i = ln := by omega
      have HE := Lib.hid (hok.out HQ.out)
      clear LX FB FS HQ
      go_wp2_with fail
      go_ret2
      exact ⟨by (rw [HE.out.1, HE.out.2]; try rfl), gr_auto⟩
theorem thr_any (N : Ba.SlNode) (L : Ba.SlLink) (G : Ba.SlLedger) (t : ByteArray) (w : World) (hN : N.At w) (hL : L.At w) (hG : G.At w) : Calls Tryz.prog 10 #[Ba.netVal N L, .slice G.A G.n G.c, .string t] w (fun e w' => e = .returned (.tuple #[.int .i64 (Ba.thrV N L G t), .int .i64 (Ba.thrE N L G t)]) ∧ Gr w w') := by
  have HL := Lib.hid (fun W (hh : Gr w W) => listed_any N L G W (hN.gr hh) (hL.gr hh) (hG.gr hh))
  have HK := Lib.hid (fun W (hh : Gr w W) => linkno_any N L t W (hN.gr hh) (hL.gr hh))
  have hm := Nat.le_trans hG.hc hG.hb
  by_cases he : Ba.lstE N L G = 0
  rotate_left
  · have e : Ba.thrE N L G t = Ba.lstE N L G := by unfold Ba.thrE; rw [if_neg he]
    have v : Ba.thrV N L G t = 0 := by unfold Ba.thrV; rw [e, if_neg he]
    rw [v, e]
    exact thr_e N.A L.A G.A N.n N.c L.n L.c G.n G.c t w _ he HL
  rw [he] at HL
  have hv : Ba.netB N L = true := by
    cases q : Ba.netB N L
    · unfold Ba.lstE at he; rw [if_pos q] at he; omega
    · rfl
  have hq : Ba.ledsB L G = true := by
    cases q : Ba.ledsB L G
    · unfold Ba.lstE at he; rw [if_neg (by rw [hv]; decide), if_pos q] at he; omega
    · rfl
  simp only [hv, if_true] at HK
  have e0 : Ba.thrE N L G t = if Ba.lix L t < 0 then 9 else if Ba.thrOk G (Ba.lix L t).toNat = true then 0 else 5 := by unfold Ba.thrE; rw [if_pos he]
  unfold Ba.fnd Ba.fndE at HK
  rcases Ba.lix_cases L t with hx | ⟨k, hk, hx, -, -⟩
  · have e : Ba.thrE N L G t = 9 := by rw [e0, if_pos (by omega)]
    have v : Ba.thrV N L G t = 0 := by unfold Ba.thrV; rw [e, if_neg (by decide)]
    rw [v, e]
    rw [hx] at HK
    exact thr_n N.A L.A G.A N.n N.c L.n L.c G.n G.c t w _ 9 (by decide) HL HK
  · rw [hx] at HK
    simp only [if_neg (show ¬ ((k : Int) < 0) by omega)] at HK
    have hb := fun i (hi : i < G.n) => Ba.ledg_parts (Ba.allB_at hq hi)
    have ex : (Ba.lix L t).toNat = k := by rw [hx]; simp
    have ge : ∀ i, i ≤ G.n → 0 ≤ Ba.thrI G k i := fun i hi => by
      have := Ba.sumI_le (X := fun j => (G.D j).ps.X k) (lo := 0) (hi := 9007199254740992) (n := i) fun j hj => (hb j (by omega)).2.2.2 k (by omega)
      unfold Ba.thrI
      omega
    refine thr_l N.A L.A G.A N.n N.c L.n L.c G.n G.c t w G.b G.o k G.D (Ba.thrI G k) _ _ hm (Lib.hid hG.hA) (Lib.hid fun i hi => ⟨(hG.hD i hi).1, by rw [(hb i hi).2.2.1]; exact hk, (hG.hD i hi).2.2.2.hA, ((hG.hD i hi).2.2.2.hX k (by rw [(hb i hi).2.2.1]; exact hk)).1, (hb i hi).2.2.2 k hk⟩) HL HK rfl (Lib.hid fun i => rfl) (Lib.hid fun i hi h => ⟨ge i hi, ?_⟩) (Lib.hid fun h => ?_) (Lib.hid fun h => ?_)
    · cases i with
      | zero => unfold Ba.thrI Ba.sumI; omega
      | succ i => exact of_decide_eq_true (Ba.allB_at h (Nat.lt_succ_self i))
    · have e : Ba.thrE N L G t = 5 := by rw [e0, if_neg (by omega), ex, if_neg (by unfold Ba.thrOk; rw [h]; decide)]
      exact ⟨by unfold Ba.thrV; rw [e, if_neg (by decide)], e⟩
    · have e : Ba.thrE N L G t = 0 := by rw [e0, if_neg (by omega), ex, if_pos (show Ba.thrOk G k = true from h)]
      exact ⟨by unfold Ba.thrV; rw [e, if_pos rfl, ex], e⟩
end Go.Proofs.YtkgbbcmgfbipaaaGreatDoor
