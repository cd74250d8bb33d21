/-
  Runoff: small tests; landuse.Valid, gauge.Valid, and the reference's. (Printed by mka.py.)
-/
import Derived.Test.YtajhhplgcegodaaGreatDoorInf06
import Derived.Test.YtajhhplgcegodaaGreatDoorInf02

set_option linter.unusedVariables false
set_option linter.unusedSimpArgs false
namespace Go.Proofs.YtajhhplgcegodaaGreatDoor
open Go.RowKit
set_option maxRecDepth 100000 in
set_option maxHeartbeats 4000000 in
theorem rwithin_any_ (x h : Int) (w : World) : Calls Tryz.prog 95 #[.int .i64 x, .int .i64 h] w fun e w' => e = .returned (.bool (Ba.bet x 0 h)) ∧ w = w' := by
  unfold Ba.bet
  cases t0 : decide (0 ≤ x)
  · go_enter Tryz.func95, Tryz.ntmps95
    go_wp2_with fail
    go_ret
    exact ⟨rfl, rfl⟩
  · cases t1 : decide (x ≤ h)
    · go_enter Tryz.func95, Tryz.ntmps95
      go_wp2_with fail
      go_ret
      exact ⟨rfl, rfl⟩
    · go_enter Tryz.func95, Tryz.ntmps95
      go_wp2_with fail
      go_ret
      exact ⟨rfl, rfl⟩
set_option maxRecDepth 100000 in
set_option maxHeartbeats 4000000 in
theorem lwithin_any (x h : Int) (w : World) : Calls Tryz.prog 147 #[.int .i64 x, .int .i64 h] w fun e w' => e = .returned (.bool (Ba.bet x 0 h)) ∧ w = w' := by
  unfold Ba.bet
  cases t0 : decide (0 ≤ x)
  · go_enter Tryz.func147, Tryz.ntmps147
    go_wp2_with fail
    go_ret
    exact ⟨rfl, rfl⟩
  · cases t1 : decide (x ≤ h)
    · go_enter Tryz.func147, Tryz.ntmps147
      go_wp2_with fail
      go_ret
      exact ⟨rfl, rfl⟩
    · go_enter Tryz.func147, Tryz.ntmps147
      go_wp2_with fail
      go_ret
      exact ⟨rfl, rfl⟩
set_option maxRecDepth 100000 in
set_option maxHeartbeats 4000000 in
theorem uwithin_any (x h : Int) (w : World) : Calls Tryz.prog 106 #[.int .i64 x, .int .i64 h] w fun e w' => e = .returned (.bool (Ba.bet x 0 h)) ∧ w = w' := by
  unfold Ba.bet
  cases t0 : decide (0 ≤ x)
  · go_enter Tryz.func106, Tryz.ntmps106
    go_wp2_with fail
    go_ret
    exact ⟨rfl, rfl⟩
  · cases t1 : decide (x ≤ h)
    · go_enter Tryz.func106, Tryz.ntmps106
      go_wp2_with fail
      go_ret
      exact ⟨rfl, rfl⟩
    · go_enter Tryz.func106, Tryz.ntmps106
      go_wp2_with fail
      go_ret
      exact ⟨rfl, rfl⟩
set_option maxRecDepth 100000 in
set_option maxHeartbeats 4000000 in
theorem length_any (x : Int) (w : World) : Calls Tryz.prog 148 #[.int .i64 x] w fun e w' => e = .returned (.bool (Ba.bet x 1 86400)) ∧ w = w' := by
  unfold Ba.bet
  cases t0 : decide (1 ≤ x)
  · go_enter Tryz.func148, Tryz.ntmps148
    go_wp2_with fail
    go_ret
    exact ⟨rfl, rfl⟩
  · cases t1 : decide (x ≤ 86400)
    · go_enter Tryz.func148, Tryz.ntmps148
      go_wp2_with fail
      go_ret
      exact ⟨rfl, rfl⟩
    · go_enter Tryz.func148, Tryz.ntmps148
      go_wp2_with fail
      go_ret
      exact ⟨rfl, rfl⟩
set_option maxRecDepth 100000 in
set_option maxHeartbeats 4000000 in
theorem instant_any (x : Int) (w : World) : Calls Tryz.prog 124 #[.int .i64 x] w fun e w' => e = .returned (.bool (Ba.bet x (-68719476736) 68719476736)) ∧ w = w' := by
  unfold Ba.bet
  cases t0 : decide (-68719476736 ≤ x)
  · go_enter Tryz.func124, Tryz.ntmps124
    go_wp2_with fail
    go_ret
    exact ⟨rfl, rfl⟩
  · cases t1 : decide (x ≤ 68719476736)
    · go_enter Tryz.func124, Tryz.ntmps124
      go_wp2_with fail
      go_ret
      exact ⟨rfl, rfl⟩
    · go_enter Tryz.func124, Tryz.ntmps124
      go_wp2_with fail
      go_ret
      exact ⟨rfl, rfl⟩
set_option maxRecDepth 100000 in
set_option maxHeartbeats 4000000 in
theorem rinstant_any (x : Int) (w : World) : Calls Tryz.prog 111 #[.int .i64 x] w fun e w' => e = .returned (.bool (Ba.bet x (-68719476736) 68719476736)) ∧ w = w' := by
  unfold Ba.bet
  cases t0 : decide (-68719476736 ≤ x)
  · go_enter Tryz.func111, Tryz.ntmps111
    go_wp2_with fail
    go_ret
    exact ⟨rfl, rfl⟩
  · cases t1 : decide (x ≤ 68719476736)
    · go_enter Tryz.func111, Tryz.ntmps111
      go_wp2_with fail
      go_ret
      exact ⟨rfl, rfl⟩
    · go_enter Tryz.func111, Tryz.ntmps111
      go_wp2_with fail
      go_ret
      exact ⟨rfl, rfl⟩
set_option maxRecDepth 100000 in
set_option maxHeartbeats 4000000 in
theorem rlength_any (x : Int) (w : World) : Calls Tryz.prog 112 #[.int .i64 x] w fun e w' => e = .returned (.bool (Ba.bet x 1 86400)) ∧ w = w' := by
  unfold Ba.bet
  cases t0 : decide (1 ≤ x)
  · go_enter Tryz.func112, Tryz.ntmps112
    go_wp2_with fail
    go_ret
    exact ⟨rfl, rfl⟩
  · cases t1 : decide (x ≤ 86400)
    · go_enter Tryz.func112, Tryz.ntmps112
      go_wp2_with fail
      go_ret
      exact ⟨rfl, rfl⟩
    · go_enter Tryz.func112, Tryz.ntmps112
      go_wp2_with fail
      go_ret
      exact ⟨rfl, rfl⟩
set_option maxRecDepth 100000 in
set_option maxHeartbeats 4000000 in
theorem gvf_any (x : Int) (w : World) : Calls Tryz.prog 125 #[.int .i64 x] w fun e w' => e = .returned (.bool (!Ba.bet x (-1) 4194304)) ∧ w = w' := by
  have e : (!Ba.bet x (-1) 4194304) = (decide (x < -1) || decide (4194304 < x)) := by
    unfold Ba.bet
    by_cases h : x < -1
    · rw [decide_eq_true h, decide_eq_false (by omega : ¬ -1 ≤ x)]; simp
    · rw [decide_eq_false h, decide_eq_true (by omega : -1 ≤ x)]
      by_cases h2 : 4194304 < x
      · rw [decide_eq_true h2, decide_eq_false (by omega : ¬ x ≤ 4194304)]; rfl
      · rw [decide_eq_false h2, decide_eq_true (by omega : x ≤ 4194304)]; rfl
  rw [e]
  clear e
  cases t0 : decide (x < -1)
  · cases t1 : decide (4194304 < x)
    · go_enter Tryz.func125, Tryz.ntmps125
      go_wp2_with fail
      go_ret
      exact ⟨rfl, rfl⟩
    · go_enter Tryz.func125, Tryz.ntmps125
      go_wp2_with fail
      go_ret
      exact ⟨rfl, rfl⟩
  · go_enter Tryz.func125, Tryz.ntmps125
    go_wp2_with fail
    go_ret
    exact ⟨rfl, rfl⟩
theorem gr_of {f : FuncId} {args : Array Value} {w : World} {v : Value} {P : Program} (h : Calls P f args w fun e w' => e = .returned v ∧ w = w') : Calls P f args w fun e w' => e = .returned v ∧ Gr w w' := h.mono fun _ _ ⟨a, b⟩ => ⟨a, b ▸ Gr.refl _⟩
namespace Ba
/-- A record: its beginning, its step, its depths. -/
def dep (x : Int) : Bool := bet x (-1) 4194304
def serB (s : Ser) : Bool := bet s.fr (-68719476736) 68719476736 && (bet s.st 1 86400 && (decide (s.ds.n ≤ 10000) && (bet (s.fr + s.st * s.ds.n) (-68719476736) 68719476736 && allB (fun i => dep (s.ds.X i)) s.ds.n)))
/-- The first class with a name; is a class right; are all. -/
def cix (C : SlClass) (t : ByteArray) : Int := fstI (fun i => eqS (C.D i).nm t) C.n
def clN (d : Class) : Bool := bet d.se 0 1000 && (bet d.we 0 100000 && (bet d.ro 0 1000000 && bet d.dr 0 1000))
def clB (C : SlClass) (i : Nat) : Bool := Dc.isName (C.D i).nm.data.toList && ((cix C (C.D i).nm == (i : Int)) && clN (C.D i))
def clsB (C : SlClass) : Bool := decide (1 ≤ C.n) && (decide (C.n ≤ 16) && allB (clB C) C.n)
end Ba
set_option maxRecDepth 100000 in
set_option maxHeartbeats 4000000 in
theorem gvalid_any (s : Ba.Ser) (w : World) (h : s.Ok w) : Calls Tryz.prog 72 #[s.val] w fun e w' => e = .returned (.bool (Ba.serB s)) ∧ Gr w w' := by
  have HC := Lib.hid (fun W (hh : Gr w W) => has_int 125 #[] s.ds (fun i => !Ba.dep (s.ds.X i)) W (h.2.2.gr hh) (enter_of Tryz.func125 (by kernel_rfl) (by kernel_rfl)) fun i _ W' _ => gr_of (gvf_any (s.ds.X i) W'))
  have e : Ba.any (fun i => !Ba.dep (s.ds.X i)) s.ds.n = !Ba.allB (fun i => Ba.dep (s.ds.X i)) s.ds.n := by rw [← Ba.any_not, Bool.not_not]
  rw [e] at HC
  obtain ⟨b1, b2, b3⟩ := h
  have hm := Nat.le_trans b3.hc b3.hb
  clear b3 e
  unfold Ba.serB Ba.Ser.val
  generalize Ba.allB (fun i => Ba.dep (s.ds.X i)) s.ds.n = q at *
  obtain ⟨fr, st, ⟨A, n, c, b, o, X⟩⟩ := s
  simp only at *
  unfold Ba.i64 at b1 b2
  cases c0 : Ba.bet fr (-68719476736) 68719476736
  · have HI := Lib.hid (fun W => instant_any fr W)
    rw [c0] at HI
    go_enter Tryz.func72, Tryz.ntmps72
    go_wp2_with fail
    refine (HI.out _).mono ?_
    rintro e w1 ⟨rfl, rfl⟩
    go_wp2_with fail
    go_ret
    exact ⟨rfl, gr_auto⟩
  have HI := Lib.hid (fun W => instant_any fr W)
  rw [c0] at HI
  rw [Ba.bet_iff] at c0
  unfold Ba.bet
  rw [Bool.true_and]
  by_cases u0 : st < 1
  · have t0 : decide (st < 1) = true := decide_eq_true u0
    rw [decide_eq_false (by omega : ¬ 1 ≤ st)]
    clear u0
    go_enter Tryz.func72, Tryz.ntmps72
    go_wp2_with fail
    refine (HI.out _).mono ?_
    rintro e w1 ⟨rfl, rfl⟩
    go_wp2_with fail
    go_ret
    exact ⟨rfl, gr_auto⟩
  have t0 : decide (st < 1) = false := decide_eq_false u0
  rw [decide_eq_true (by omega : 1 ≤ st)]
  by_cases u1 : 86400 < st
  · have t1 : decide (86400 < st) = true := decide_eq_true u1
    rw [decide_eq_false (by omega : ¬ st ≤ 86400)]
    go_enter Tryz.func72, Tryz.ntmps72
    go_wp2_with fail
    refine (HI.out _).mono ?_
    rintro e w1 ⟨rfl, rfl⟩
    go_wp2_with fail
    go_ret
    exact ⟨rfl, gr_auto⟩
  have t1 : decide (86400 < st) = false := decide_eq_false u1
  rw [decide_eq_true (by omega : st ≤ 86400)]
  by_cases u2 : 10000 < n
  · have t2 : decide ((10000 : Int) < (n : Int)) = true := decide_eq_true (by omega)
    rw [decide_eq_false (by omega : ¬ n ≤ 10000)]
    go_enter Tryz.func72, Tryz.ntmps72
    go_wp2_with fail
    refine (HI.out _).mono ?_
    rintro e w1 ⟨rfl, rfl⟩
    go_wp2_with fail
    go_ret
    exact ⟨rfl, gr_auto⟩
  have t2 : decide ((10000 : Int) < (n : Int)) = false := decide_eq_false (by omega)
  rw [decide_eq_true (by omega : n ≤ 10000), Bool.true_and, Bool.true_and, Bool.true_and]
  have hp : 0 ≤ st * (n : Int) ∧ st * (n : Int) ≤ 864000000 := by
    refine ⟨Int.mul_nonneg (by omega) (by omega), ?_⟩
    calc st * (n : Int) ≤ 86400 * 10000 := Int.mul_le_mul (by omega) (by omega) (by omega) (by omega)
      _ = 864000000 := by decide
  have HJ := Lib.hid (fun W => instant_any (fr + st * (n : Int)) W)
  unfold Ba.bet at HJ
  generalize hz : st * (n : Int) = z at *
  have hz1 : fr + z ≤ 9223372036854775807 := by omega
  have hz2 : -9223372036854775808 ≤ fr + z := by omega
  generalize (decide (-68719476736 ≤ fr + z) && decide (fr + z ≤ 68719476736)) = q2 at *
  cases q2
  · go_enter Tryz.func72, Tryz.ntmps72
    go_wp2_with fail
    refine (HI.out _).mono ?_
    rintro e w1 ⟨rfl, rfl⟩
    go_wp2_with fail
    refine (HJ.out _).mono ?_
    rintro e w1 ⟨rfl, rfl⟩
    go_wp2_with fail
    go_ret
    exact ⟨rfl, gr_auto⟩
  · go_enter Tryz.func72, Tryz.ntmps72
    go_wp2_with fail
    refine (HI.out _).mono ?_
    rintro e w1 ⟨rfl, rfl⟩
    go_wp2_with fail
    refine (HJ.out _).mono ?_
    rintro e w1 ⟨rfl, rfl⟩
    go_wp2_with fail
    refine (HC.out _ gr_auto).mono ?_
    rintro e w3 ⟨rfl, hb3⟩
    go_wp2_with fail
    go_ret
    exact ⟨by cases q <;> rfl, gr_auto⟩
set_option maxRecDepth 100000 in
set_option maxHeartbeats 4000000 in
theorem clsf_any (d : Ba.Class) (t : ByteArray) (B : Nat) (w : World) (hc : w.cell? ⟨B, 0, none⟩ = some (.string t)) : Calls Tryz.prog 177 #[d.val, .pointer (some ⟨B, 0, none⟩)] w fun e w' => e = .returned (.bool (Ba.eqS d.nm t)) ∧ Gr w w' := by
  have hB : B < w.heap.size := World.block_lt_of_cell? _ _ hc
  have hn : B ≠ w.heap.size := by omega
  unfold Ba.Class.val Ba.eqS
  go_enter Tryz.func177, Tryz.ntmps177
  go_wp2_with fail
  go_ret
  exact ⟨rfl, gr_auto⟩
set_option maxRecDepth 100000 in
set_option maxHeartbeats 4000000 in
theorem cix_any (s : Ba.SlClass) (t : ByteArray) (w : World) (h : s.At w) : Calls Tryz.prog 153 #[.slice s.A s.n s.c, .string t] w fun e w' => e = .returned (.int .i64 (Ba.cix s t)) ∧ Gr w w' := by
  have HI := Lib.hid (fun (B : Nat) (W : World) (hg : Gr w W) (hc : W.cell? ⟨B, 0, none⟩ = some (.string t)) => idx_class 177 #[.pointer (some ⟨B, 0, none⟩)] s (fun i => Ba.eqS (s.D i).nm t) W (h.gr hg) (enter_of Tryz.func177 (by kernel_rfl) (by kernel_rfl)) fun i hi W' hW => clsf_any (s.D i) t B W' (Gr.at hW hc))
  clear h
  unfold Ba.cix
  generalize Ba.fstI (fun i => Ba.eqS (s.D i).nm t) s.n = r at *
  generalize s.A = A' at *
  generalize s.n = n' at *
  generalize s.c = c' at *
  go_enter Tryz.func153, Tryz.ntmps153
  go_wp2_with fail
  refine (HI.out _ _ gr_auto (by simp [go_sem])).mono ?_
  rintro e w1 ⟨rfl, hb1⟩
  go_wp2_with fail
  go_ret
  exact ⟨rfl, gr_auto⟩
set_option maxRecDepth 100000 in
set_option maxHeartbeats 4000000 in
theorem uvalid_any (C : Ba.SlClass) (w : World) (h : C.At w) : Calls Tryz.prog 102 #[.slice C.A C.n C.c] w fun e w' => e = .returned (.bool (Ba.clsB C)) ∧ Gr w w' := by
  have hm := Nat.le_trans h.hc h.hb
  have HA := Lib.hid h.hA; have HD := Lib.hid h.hD; have HH := Lib.hid h
  clear h
  by_cases h0 : C.n = 0
  · have t0 : decide ((C.n : Int) < 1) = true := decide_eq_true (by omega)
    have e : Ba.clsB C = false := by unfold Ba.clsB; rw [h0]; rfl
    rw [e]
    clear h0 e
    generalize C.A = A at *; generalize C.n = n at *; generalize C.c = c at *
    go_enter Tryz.func102, Tryz.ntmps102
    go_wp2_with fail
    go_ret
    exact ⟨rfl, gr_auto⟩
  have t0 : decide ((C.n : Int) < 1) = false := decide_eq_false (by omega)
  by_cases h1 : 16 < C.n
  · have t1 : decide ((16 : Int) < (C.n : Int)) = true := decide_eq_true (by omega)
    have e : Ba.clsB C = false := by unfold Ba.clsB; rw [decide_eq_false (by omega : ¬ C.n ≤ 16)]; simp
    rw [e]
    clear h0 h1 e
    generalize C.A = A at *; generalize C.n = n at *; generalize C.c = c at *
    go_enter Tryz.func102, Tryz.ntmps102
    go_wp2_with fail
    go_ret
    exact ⟨rfl, gr_auto⟩
  have t1 : decide ((16 : Int) < (C.n : Int)) = false := decide_eq_false (by omega)
  have e : Ba.clsB C = Ba.allB (Ba.clB C) C.n := by unfold Ba.clsB; rw [decide_eq_true (by omega : 1 ≤ C.n), decide_eq_true (by omega : C.n ≤ 16)]; rfl
  rw [e]
  clear e
  obtain ⟨A, hA⟩ : ∃ A, C.A = A := ⟨_, rfl⟩; obtain ⟨n, hn⟩ : ∃ n, C.n = n := ⟨_, rfl⟩; obtain ⟨c, hc⟩ : ∃ c, C.c = c := ⟨_, rfl⟩
  have HXI := Lib.hid (fun (t : ByteArray) (W : World) (hW : Gr w W) => cix_any C t W (HH.out.gr hW))
  rw [hA, hn, hc] at HXI
  rw [hA, hn, hc]
  rw [hn] at t0 t1 hm h0 h1
  rw [hA, hn] at HA
  rw [hn] at HD
  clear HH
  go_enter Tryz.func102, Tryz.ntmps102
  go_wp2_with fail
  refine name_world ?_; intro W0 hW0
  have g0 : Gr w W0 := by rw [hW0]; exact gr_auto
  clear hW0
  go_loopw [15] (fun x wr => ∃ i : Nat, i ≤ n ∧ x = .int .i64 (i : Int) ∧ Hid (Ba.allB (Ba.clB C) i = true) ∧ Gr W0 wr) (fun x _ => n - (intOf x).toNat)
  case atStart => exact ⟨0, Nat.zero_le _, rfl, Lib.hid rfl, Gr.refl _⟩
  case round =>
    obtain ⟨i, hi, rfl, HQ, hg⟩ := hrel
    have gr : Gr w wr := g0.trans hg
    by_cases hlt : i < n
    · obtain rfl := HA.out (by omega)
      obtain ⟨a0, a1, a2, a3, a4⟩ := (HD.out i hlt).1.gr gr
      have hsz := (HD.out i hlt).2.2.2.2.2
      have ib0 : (0 : Int) ≤ (i : Int) := by omega
      have ib1 : (i : Int) < (n : Int) := by omega
      have HN := Lib.hid (fun W => isname_all (C.D i).nm W hsz)
      have HX := Lib.hid (fun W (hW : Gr wr W) => HXI.out (C.D i).nm W (gr.trans hW))
      have HB2 := Lib.hid (fun W => uwithin_any (C.D i).se 1000 W); have HB3 := Lib.hid (fun W => uwithin_any (C.D i).we 100000 W); have HB4 := Lib.hid (fun W => uwithin_any (C.D i).ro 1000000 W); have HB5 := Lib.hid (fun W => uwithin_any (C.D i).dr 1000 W)
      have hcl : Ba.clB C i = (Dc.isName (C.D i).nm.data.toList && ((Ba.cix C (C.D i).nm == (i : Int)) && (Ba.bet (C.D i).se 0 1000 && (Ba.bet (C.D i).we 0 100000 && (Ba.bet (C.D i).ro 0 1000000 && Ba.bet (C.D i).dr 0 1000))))) := rfl
      generalize Ba.cix C (C.D i).nm = cx at *
      clear HD HXI
      generalize C.D i = d at *
      cases q0 : Dc.isName d.nm.data.toList
      · rw [q0] at HN hcl
        have HR := Lib.hid (Ba.allB_stop (p := Ba.clB C) hlt (by rw [hcl]; simp))
        clear hcl HQ
        go_wp2_with fail
        (first | refine name_world ?_ | refine (show (∀ W, W = _ → Calls _ _ _ W _) → Calls _ _ _ _ _ from fun h => h _ rfl) ?_); intro W3 hW3
        have g3 : Gr w W3 := by rw [hW3]; exact gr_auto
        have gb3_wr : Gr wr W3 := by (try clear g3); rw [hW3]; exact gr_auto
        have k3_0 : W3.cell? ⟨wr.heap.size, 0, none⟩ = some (.string d.nm) := by rw [hW3]; first | (simp [go_sem, *]; done) | (refine Gr.at ?_ (by assumption); exact gr_auto)
        have b3_0 : wr.heap.size < W3.heap.size := World.block_lt_of_cell? _ _ k3_0
        have k3_1 : W3.cell? ⟨wr.heap.size, 1, none⟩ = some (.int .i64 d.se) := by rw [hW3]; first | (simp [go_sem, *]; done) | (refine Gr.at ?_ (by assumption); exact gr_auto)
        have k3_2 : W3.cell? ⟨wr.heap.size, 2, none⟩ = some (.int .i64 d.we) := by rw [hW3]; first | (simp [go_sem, *]; done) | (refine Gr.at ?_ (by assumption); exact gr_auto)
        have k3_3 : W3.cell? ⟨wr.heap.size, 3, none⟩ = some (.int .i64 d.ro) := by rw [hW3]; first | (simp [go_sem, *]; done) | (refine Gr.at ?_ (by assumption); exact gr_auto)
        have k3_4 : W3.cell? ⟨wr.heap.size, 4, none⟩ = some (.int .i64 d.dr) := by rw [hW3]; first | (simp [go_sem, *]; done) | (refine Gr.at ?_ (by assumption); exact gr_auto)
        clear hW3
        refine (HN.out _).mono ?_
        rintro e w4 ⟨rfl, rfl⟩
        go_wp2_with fail
        go_ret
        exact ⟨by rw [HR.out]; rfl, gr_auto⟩
      · rw [q0] at HN hcl
        cases q1 : (cx == (i : Int))
        · rw [q1] at hcl
          have q1b : (cx != (i : Int)) = true := by simp only [bne, q1, Bool.not_false]
          have HR := Lib.hid (Ba.allB_stop (p := Ba.clB C) hlt (by rw [hcl]; simp))
          clear hcl HQ
          go_wp2_with fail
          (first | refine name_world ?_ | refine (show (∀ W, W = _ → Calls _ _ _ W _) → Calls _ _ _ _ _ from fun h => h _ rfl) ?_); intro W3 hW3
          have g3 : Gr w W3 := by rw [hW3]; exact gr_auto
          have gb3_wr : Gr wr W3 := by (try clear g3); rw [hW3]; exact gr_auto
          have k3_0 : W3.cell? ⟨wr.heap.size, 0, none⟩ = some (.string d.nm) := by rw [hW3]; first | (simp [go_sem, *]; done) | (refine Gr.at ?_ (by assumption); exact gr_auto)
          have b3_0 : wr.heap.size < W3.heap.size := World.block_lt_of_cell? _ _ k3_0
          have k3_1 : W3.cell? ⟨wr.heap.size, 1, none⟩ = some (.int .i64 d.se) := by rw [hW3]; first | (simp [go_sem, *]; done) | (refine Gr.at ?_ (by assumption); exact gr_auto)
          have k3_2 : W3.cell? ⟨wr.heap.size, 2, none⟩ = some (.int .i64 d.we) := by rw [hW3]; first | (simp [go_sem, *]; done) | (refine Gr.at ?_ (by assumption); exact gr_auto)
          have k3_3 : W3.cell? ⟨wr.heap.size, 3, none⟩ = some (.int .i64 d.ro) := by rw [hW3]; first | (simp [go_sem, *]; done) | (refine Gr.at ?_ (by assumption); exact gr_auto)
          have k3_4 : W3.cell? ⟨wr.heap.size, 4, none⟩ = some (.int .i64 d.dr) := by rw [hW3]; first | (simp [go_sem, *]; done) | (refine Gr.at ?_ (by assumption); exact gr_auto)
          clear hW3
          refine (HN.out _).mono ?_
          rintro e w4 ⟨rfl, rfl⟩
          go_wp2_with fail
          refine (HX.out _ (by first | exact gb3_wr | exact gr_auto)).mono ?_
          rintro e w5 ⟨rfl, hb5⟩
          have k3_0 := Gr.at (w1 := w5) gr_auto k3_0; have k3_1 := Gr.at (w1 := w5) gr_auto k3_1; have k3_2 := Gr.at (w1 := w5) gr_auto k3_2; have k3_3 := Gr.at (w1 := w5) gr_auto k3_3; have k3_4 := Gr.at (w1 := w5) gr_auto k3_4
          go_wp2_with fail
          go_ret
          exact ⟨by rw [HR.out]; rfl, by first | exact g0.trans (hg.trans (gb3_wr.trans hb5)) | exact gr_auto⟩
        · rw [q1] at hcl
          have q1b : (cx != (i : Int)) = false := by simp only [bne, q1, Bool.not_true]
          cases q2 : Ba.bet d.se 0 1000
          · rw [q2] at HB2 hcl
            have HR := Lib.hid (Ba.allB_stop (p := Ba.clB C) hlt (by rw [hcl]; simp))
            clear hcl HQ
            go_wp2_with fail
            (first | refine name_world ?_ | refine (show (∀ W, W = _ → Calls _ _ _ W _) → Calls _ _ _ _ _ from fun h => h _ rfl) ?_); intro W3 hW3
            have g3 : Gr w W3 := by rw [hW3]; exact gr_auto
            have gb3_wr : Gr wr W3 := by (try clear g3); rw [hW3]; exact gr_auto
            have k3_0 : W3.cell? ⟨wr.heap.size, 0, none⟩ = some (.string d.nm) := by rw [hW3]; first | (simp [go_sem, *]; done) | (refine Gr.at ?_ (by assumption); exact gr_auto)
            have b3_0 : wr.heap.size < W3.heap.size := World.block_lt_of_cell? _ _ k3_0
            have k3_1 : W3.cell? ⟨wr.heap.size, 1, none⟩ = some (.int .i64 d.se) := by rw [hW3]; first | (simp [go_sem, *]; done) | (refine Gr.at ?_ (by assumption); exact gr_auto)
            have k3_2 : W3.cell? ⟨wr.heap.size, 2, none⟩ = some (.int .i64 d.we) := by rw [hW3]; first | (simp [go_sem, *]; done) | (refine Gr.at ?_ (by assumption); exact gr_auto)
            have k3_3 : W3.cell? ⟨wr.heap.size, 3, none⟩ = some (.int .i64 d.ro) := by rw [hW3]; first | (simp [go_sem, *]; done) | (refine Gr.at ?_ (by assumption); exact gr_auto)
            have k3_4 : W3.cell? ⟨wr.heap.size, 4, none⟩ = some (.int .i64 d.dr) := by rw [hW3]; first | (simp [go_sem, *]; done) | (refine Gr.at ?_ (by assumption); exact gr_auto)
            clear hW3
            refine (HN.out _).mono ?_
            rintro e w4 ⟨rfl, rfl⟩
            go_wp2_with fail
            refine (HX.out _ (by first | exact gb3_wr | exact gr_auto)).mono ?_
            rintro e w5 ⟨rfl, hb5⟩
            have k3_0 := Gr.at (w1 := w5) gr_auto k3_0; have k3_1 := Gr.at (w1 := w5) gr_auto k3_1; have k3_2 := Gr.at (w1 := w5) gr_auto k3_2; have k3_3 := Gr.at (w1 := w5) gr_auto k3_3; have k3_4 := Gr.at (w1 := w5) gr_auto k3_4
            go_wp2_with fail
            refine (HB2.out _).mono ?_
            rintro e w6 ⟨rfl, rfl⟩
            go_wp2_with fail
            go_ret
            exact ⟨by rw [HR.out]; rfl, by first | exact g0.trans (hg.trans (gb3_wr.trans hb5)) | exact gr_auto⟩
          · rw [q2] at HB2 hcl
            cases q3 : Ba.bet d.we 0 100000
            · rw [q3] at HB3 hcl
              have HR := Lib.hid (Ba.allB_stop (p := Ba.clB C) hlt (by rw [hcl]; simp))
              clear hcl HQ
              go_wp2_with fail
              (first | refine name_world ?_ | refine (show (∀ W, W = _ → Calls _ _ _ W _) → Calls _ _ _ _ _ from fun h => h _ rfl) ?_); intro W3 hW3
              have g3 : Gr w W3 := by rw [hW3]; exact gr_auto
              have gb3_wr : Gr wr W3 := by (try clear g3); rw [hW3]; exact gr_auto
              have k3_0 : W3.cell? ⟨wr.heap.size, 0, none⟩ = some (.string d.nm) := by rw [hW3]; first | (simp [go_sem, *]; done) | (refine Gr.at ?_ (by assumption); exact gr_auto)
              have b3_0 : wr.heap.size < W3.heap.size := World.block_lt_of_cell? _ _ k3_0
              have k3_1 : W3.cell? ⟨wr.heap.size, 1, none⟩ = some (.int .i64 d.se) := by rw [hW3]; first | (simp [go_sem, *]; done) | (refine Gr.at ?_ (by assumption); exact gr_auto)
              have k3_2 : W3.cell? ⟨wr.heap.size, 2, none⟩ = some (.int .i64 d.we) := by rw [hW3]; first | (simp [go_sem, *]; done) | (refine Gr.at ?_ (by assumption); exact gr_auto)
              have k3_3 : W3.cell? ⟨wr.heap.size, 3, none⟩ = some (.int .i64 d.ro) := by rw [hW3]; first | (simp [go_sem, *]; done) | (refine Gr.at ?_ (by assumption); exact gr_auto)
              have k3_4 : W3.cell? ⟨wr.heap.size, 4, none⟩ = some (.int .i64 d.dr) := by rw [hW3]; first | (simp [go_sem, *]; done) | (refine Gr.at ?_ (by assumption); exact gr_auto)
              clear hW3
              refine (HN.out _).mono ?_
              rintro e w4 ⟨rfl, rfl⟩
              go_wp2_with fail
              refine (HX.out _ (by first | exact gb3_wr | exact gr_auto)).mono ?_
              rintro e w5 ⟨rfl, hb5⟩
              have k3_0 := Gr.at (w1 := w5) gr_auto k3_0; have k3_1 := Gr.at (w1 := w5) gr_auto k3_1; have k3_2 := Gr.at (w1 := w5) gr_auto k3_2; have k3_3 := Gr.at (w1 := w5) gr_auto k3_3; have k3_4 := Gr.at (w1 := w5) gr_auto k3_4
              go_wp2_with fail
              refine (HB2.out _).mono ?_
              rintro e w6 ⟨rfl, rfl⟩
              go_wp2_with fail
              refine (HB3.out _).mono ?_
              rintro e w7 ⟨rfl, rfl⟩
              go_wp2_with fail
              go_ret
              exact ⟨by rw [HR.out]; rfl, by first | exact g0.trans (hg.trans (gb3_wr.trans hb5)) | exact gr_auto⟩
            · rw [q3] at HB3 hcl
              cases q4 : Ba.bet d.ro 0 1000000
              · rw [q4] at HB4 hcl
                have HR := Lib.hid (Ba.allB_stop (p := Ba.clB C) hlt (by rw [hcl]; simp))
                clear hcl HQ
                go_wp2_with fail
                (first | refine name_world ?_ | refine (show (∀ W, W = _ → Calls _ _ _ W _) → Calls _ _ _ _ _ from fun h => h _ rfl) ?_); intro W3 hW3
                have g3 : Gr w W3 := by rw [hW3]; exact gr_auto
                have gb3_wr : Gr wr W3 := by (try clear g3); rw [hW3]; exact gr_auto
                have k3_0 : W3.cell? ⟨wr.heap.size, 0, none⟩ = some (.string d.nm) := by rw [hW3]; first | (simp [go_sem, *]; done) | (refine Gr.at ?_ (by assumption); exact gr_auto)
                have b3_0 : wr.heap.size < W3.heap.size := World.block_lt_of_cell? _ _ k3_0
                have k3_1 : W3.cell? ⟨wr.heap.size, 1, none⟩ = some (.int .i64 d.se) := by rw [hW3]; first | (simp [go_sem, *]; done) | (refine Gr.at ?_ (by assumption); exact gr_auto)
                have k3_2 : W3.cell? ⟨wr.heap.size, 2, none⟩ = some (.int .i64 d.we) := by rw [hW3]; first | (simp [go_sem, *]; done) | (refine Gr.at ?_ (by assumption); exact gr_auto)
                have k3_3 : W3.cell? ⟨wr.heap.size, 3, none⟩ = some (.int .i64 d.ro) := by rw [hW3]; first | (simp [go_sem, *]; done) | (refine Gr.at ?_ (by assumption); exact gr_auto)
                have k3_4 : W3.cell? ⟨wr.heap.size, 4, none⟩ = some (.int .i64 d.dr) := by rw [hW3]; first | (simp [go_sem, *]; done) | (refine Gr.at ?_ (by assumption); exact gr_auto)
                clear hW3
                refine (HN.out _).mono ?_
                rintro e w4 ⟨rfl, rfl⟩
                go_wp2_with fail
                refine (HX.out _ (by first | exact gb3_wr | exact gr_auto)).mono ?_
                rintro e w5 ⟨rfl, hb5⟩
                have k3_0 := Gr.at (w1 := w5) gr_auto k3_0; have k3_1 := Gr.at (w1 := w5) gr_auto k3_1; have k3_2 := Gr.at (w1 := w5) gr_auto k3_2; have k3_3 := Gr.at (w1 := w5) gr_auto k3_3; have k3_4 := Gr.at (w1 := w5) gr_auto k3_4
                go_wp2_with fail
                refine (HB2.out _).mono ?_
                rintro e w6 ⟨rfl, rfl⟩
                go_wp2_with fail
                refine (HB3.out _).mono ?_
                rintro e w7 ⟨rfl, rfl⟩
                go_wp2_with fail
                refine (HB4.out _).mono ?_
                rintro e w8 ⟨rfl, rfl⟩
                go_wp2_with fail
                go_ret
                exact ⟨by rw [HR.out]; rfl, by first | exact g0.trans (hg.trans (gb3_wr.trans hb5)) | exact gr_auto⟩
              · rw [q4] at HB4 hcl
                cases q5 : Ba.bet d.dr 0 1000
                · rw [q5] at HB5 hcl
                  have HR := Lib.hid (Ba.allB_stop (p := Ba.clB C) hlt (by rw [hcl]; simp))
                  clear hcl HQ
                  go_wp2_with fail
                  (first | refine name_world ?_ | refine (show (∀ W, W = _ → Calls _ _ _ W _) → Calls _ _ _ _ _ from fun h => h _ rfl) ?_); intro W3 hW3
                  have g3 : Gr w W3 := by rw [hW3]; exact gr_auto
                  have gb3_wr : Gr wr W3 := by (try clear g3); rw [hW3]; exact gr_auto
                  have k3_0 : W3.cell? ⟨wr.heap.size, 0, none⟩ = some (.string d.nm) := by rw [hW3]; first | (simp [go_sem, *]; done) | (refine Gr.at ?_ (by assumption); exact gr_auto)
                  have b3_0 : wr.heap.size < W3.heap.size := World.block_lt_of_cell? _ _ k3_0
                  have k3_1 : W3.cell? ⟨wr.heap.size, 1, none⟩ = some (.int .i64 d.se) := by rw [hW3]; first | (simp [go_sem, *]; done) | (refine Gr.at ?_ (by assumption); exact gr_auto)
                  have k3_2 : W3.cell? ⟨wr.heap.size, 2, none⟩ = some (.int .i64 d.we) := by rw [hW3]; first | (simp [go_sem, *]; done) | (refine Gr.at ?_ (by assumption); exact gr_auto)
                  have k3_3 : W3.cell? ⟨wr.heap.size, 3, none⟩ = some (.int .i64 d.ro) := by rw [hW3]; first | (simp [go_sem, *]; done) | (refine Gr.at ?_ (by assumption); exact gr_auto)
                  have k3_4 : W3.cell? ⟨wr.heap.size, 4, none⟩ = some (.int .i64 d.dr) := by rw [hW3]; first | (simp [go_sem, *]; done) | (refine Gr.at ?_ (by assumption); exact gr_auto)
                  clear hW3
                  refine (HN.out _).mono ?_
                  rintro e w4 ⟨rfl, rfl⟩
                  go_wp2_with fail
                  refine (HX.out _ (by first | exact gb3_wr | exact gr_auto)).mono ?_
                  rintro e w5 ⟨rfl, hb5⟩
                  have k3_0 := Gr.at (w1 := w5) gr_auto k3_0; have k3_1 := Gr.at (w1 := w5) gr_auto k3_1; have k3_2 := Gr.at (w1 := w5) gr_auto k3_2; have k3_3 := Gr.at (w1 := w5) gr_auto k3_3; have k3_4 := Gr.at (w1 := w5) gr_auto k3_4
                  go_wp2_with fail
                  refine (HB2.out _).mono ?_
                  rintro e w6 ⟨rfl, rfl⟩
                  go_wp2_with fail
                  refine (HB3.out _).mono ?_
                  rintro e w7 ⟨rfl, rfl⟩
                  go_wp2_with fail
                  refine (HB4.out _).mono ?_
                  rintro e w8 ⟨rfl, rfl⟩
                  go_wp2_with fail
                  refine (HB5.out _).mono ?_
                  rintro e w9 ⟨rfl, rfl⟩
                  go_wp2_with fail
                  go_ret
                  exact ⟨by rw [HR.out]; rfl, by first | exact g0.trans (hg.trans (gb3_wr.trans hb5)) | exact gr_auto⟩
                · rw [q5] at HB5 hcl
                  have HQ2 := Lib.hid (Ba.allB_go HQ.out (show Ba.clB C i = true by rw [hcl]; rfl))
                  clear hcl HQ
                  go_wp2_with fail
                  (first | refine name_world ?_ | refine (show (∀ W, W = _ → Calls _ _ _ W _) → Calls _ _ _ _ _ from fun h => h _ rfl) ?_); intro W3 hW3
                  have g3 : Gr w W3 := by rw [hW3]; exact gr_auto
                  have gb3_wr : Gr wr W3 := by (try clear g3); rw [hW3]; exact gr_auto
                  have k3_0 : W3.cell? ⟨wr.heap.size, 0, none⟩ = some (.string d.nm) := by rw [hW3]; first | (simp [go_sem, *]; done) | (refine Gr.at ?_ (by assumption); exact gr_auto)
                  have b3_0 : wr.heap.size < W3.heap.size := World.block_lt_of_cell? _ _ k3_0
                  have k3_1 : W3.cell? ⟨wr.heap.size, 1, none⟩ = some (.int .i64 d.se) := by rw [hW3]; first | (simp [go_sem, *]; done) | (refine Gr.at ?_ (by assumption); exact gr_auto)
                  have k3_2 : W3.cell? ⟨wr.heap.size, 2, none⟩ = some (.int .i64 d.we) := by rw [hW3]; first | (simp [go_sem, *]; done) | (refine Gr.at ?_ (by assumption); exact gr_auto)
                  have k3_3 : W3.cell? ⟨wr.heap.size, 3, none⟩ = some (.int .i64 d.ro) := by rw [hW3]; first | (simp [go_sem, *]; done) | (refine Gr.at ?_ (by assumption); exact gr_auto)
                  have k3_4 : W3.cell? ⟨wr.heap.size, 4, none⟩ = some (.int .i64 d.dr) := by rw [hW3]; first | (simp [go_sem, *]; done) | (refine Gr.at ?_ (by assumption); exact gr_auto)
                  clear hW3
                  refine (HN.out _).mono ?_
                  rintro e w4 ⟨rfl, rfl⟩
                  go_wp2_with fail
                  refine (HX.out _ (by first | exact gb3_wr | exact gr_auto)).mono ?_
                  rintro e w5 ⟨rfl, hb5⟩
                  have k3_0 := Gr.at (w1 := w5) gr_auto k3_0; have k3_1 := Gr.at (w1 := w5) gr_auto k3_1; have k3_2 := Gr.at (w1 := w5) gr_auto k3_2; have k3_3 := Gr.at (w1 := w5) gr_auto k3_3; have k3_4 := Gr.at (w1 := w5) gr_auto k3_4
                  go_wp2_with fail
                  refine (HB2.out _).mono ?_
                  rintro e w6 ⟨rfl, rfl⟩
                  go_wp2_with fail
                  refine (HB3.out _).mono ?_
                  rintro e w7 ⟨rfl, rfl⟩
                  go_wp2_with fail
                  refine (HB4.out _).mono ?_
                  rintro e w8 ⟨rfl, rfl⟩
                  go_wp2_with fail
                  refine (HB5.out _).mono ?_
                  rintro e w9 ⟨rfl, rfl⟩
                  go_wp2_with fail
                  go_roundw
                  case rel => exact ⟨i + 1, by omega, by go_num, HQ2, by first | exact hg.trans (gb3_wr.trans hb5) | exact gr_auto⟩
                  case measure => simp [intOf]; omega
    · obtain rfl : n = i := by omega
      have HR := Lib.hid HQ.out
      go_wp2_with fail
      go_ret
      exact ⟨by rw [HR.out]; rfl, g0.trans hg⟩
end Go.Proofs.YtajhhplgcegodaaGreatDoor
