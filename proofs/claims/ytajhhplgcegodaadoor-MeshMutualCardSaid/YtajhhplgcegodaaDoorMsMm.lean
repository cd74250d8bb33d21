/-
  The law MeshMutual. (Printed by mkmm.py.)
-/
import Derived.Test.YtajhhplgcegodaaDoorMsS
import Derived.Test.YtajhhplgcegodaaDoorMsSd
import Derived.Test.YtajhhplgcegodaaDoorMsMo
import Derived.Test.YtajhhplgcegodaaDoorMsMc
import Derived.Test.YtajhhplgcegodaaDoorMsSi
import Derived.Test.YtajhhplgcegodaaDoorMsMp
import Derived.Test.YtajhhplgcegodaaDoorShelf
set_option linter.unusedVariables false
set_option linter.unusedSimpArgs false
namespace Go.Proofs.YtajhhplgcegodaaDoor
open Go.RowKit Go.Maps Go.ChangeShapes Go.WideShapes Go.MapKept
namespace Ms
theorem upTo_len (L : List (List Nat)) {r : Nat} (hr : r < L.length) : (upTo L (r + 1) 0).length = (upTo L r 0).length + (L.getD r []).length := by
  rw [← upTo_row L hr]
  unfold upTo
  simp
theorem upTo_le (L : List (List Nat)) {r : Nat} (_ : r ≤ L.length) : (upTo L r 0).length ≤ (upTo L L.length 0).length := by
  have e : L.flatten = (L.take r).flatten ++ (L.drop r).flatten := by rw [← List.flatten_append, List.take_append_drop]
  rw [upTo_end, e, List.length_append]
  unfold upTo
  simp
end Ms
/-- How many entries a loop over a map has left. -/
def itLeft (w : World) (r b : Nat) : Nat := match w.heap[r]?, w.heap[b]? with
  | some (.mapIter _ _ seen _), some (.map es _) => (leftOf es seen).size
  | _, _ => 0
theorem itLeft_eq {w : World} {b r cnt : Nat} {c : Value} (h : ItM w b r cnt c) : itLeft w r b = cnt := by
  obtain ⟨es, clock, since, seen, c0, h1, h2, h3, h4, h5, h6, h7, h8⟩ := h
  unfold itLeft
  rw [h1, h2]; exact h6
/-- One more, or one less, at a key: what the three operations answer. -/
theorem mu_bump {W : World} {MB n : Nat} {f : Value → Option Value} {a b v : Int} (h : MapIs Tryd.prog 48 W MB n f) (ha : Ba.i64 a) (hb : Ba.i64 b) (hv : (f (Ms.k2 a b)).getD (.int .i64 0) = .int .i64 v) :
    ∃ (st : Nat) (w1 : World), (Instr.lookup 46 (.map (some MB)) (.agg #[.int .i64 a, .int .i64 b]) false).run Tryd.prog W = .ok (.int .i64 v) W ∧
      (Instr.mapEntry 46 (.map (some MB)) (.agg #[.int .i64 a, .int .i64 b])).run Tryd.prog W = .ok (.tuple #[.int .i64 v, .int .i64 (st : Int)]) w1 ∧
      (Instr.lookup 46 (.map (some MB)) (.agg #[.int .i64 a, .int .i64 b]) false).run Tryd.prog w1 = .ok (.int .i64 v) w1 ∧
      ∀ u : Int, ∃ w2, (Instr.entryStore 46 (.map (some MB)) (.int .i64 (st : Int)) (.int .i64 u)).run Tryd.prog w1 = .ok () w2 ∧ GrX MB W w2 ∧
        ∀ g : Value → Option Value, g (Ms.k2 a b) = some (.int .i64 u) → (∀ x, x ≠ Ms.k2 a b → g x = f x) → MapIs Tryd.prog 48 w2 MB (n + 1) g := by
  obtain ⟨kl, hkl⟩ := key_side ha hb
  have h0 := h.look false keyed_side Tryd.underlying46 (zero_int W) hkl
  rw [if_neg (by decide), hv] at h0
  obtain ⟨st, w1, h1, -, h2, h3⟩ := h.bump keyed_side Tryd.underlying46 zero_int hkl
  rw [hv] at h1 h2
  classical
  have h4 := (h2 (fun x => if x = Ms.k2 a b then some (.int .i64 v) else f x) (by rw [if_pos rfl]) (fun x hx => by rw [if_neg hx])).look false keyed_side Tryd.underlying46 (zero_int w1) hkl
  rw [if_neg (by decide), if_pos rfl] at h4
  exact ⟨st, w1, h0, h1, h4, fun u => h3 (.int .i64 u)⟩
set_option maxRecDepth 100000 in
set_option maxHeartbeats 4000000 in
theorem mu_out (m : Ms.Mesh) (w : World) (hf : ¬ (m.S.n ≤ 60 ∧ m.F.n ≤ 60)) : Calls Tryd.prog 4 #[m.val] w fun e w' => e = .returned (.bool true) ∧ Gr w w' := by
  have HA := Lib.hid (fun W => aw_any W)
  have HF := Lib.hid (fun W => few_any m W)
  rw [show (decide (m.S.n ≤ 60) && decide (m.F.n ≤ 60)) = false from by rw [← Bool.not_eq_true, Bool.and_eq_true, decide_eq_true_eq, decide_eq_true_eq]; exact hf] at HF
  clear hf
  unfold Ms.Mesh.val at *
  generalize m.S.A = sA at *; generalize m.S.n = sn at *; generalize m.S.c = sc at *; generalize m.F.A = fA at *; generalize m.F.n = fn at *; generalize m.F.c = fc at *
  go_enter Tryd.func4, Tryd.ntmps4
  go_wp2_with fail
  refine (HA.out _).mono ?_
  rintro e w1 ⟨rfl, hb1⟩
  clear HA
  have g1 : Gr w w1 := Gr.trans (by exact gr_auto) hb1
  have d0 := Gr.at hb1 (b := w.heap.size) (o := 0) (v := .slice sA sn sc) (by simp [go_sem])
  have d1 := Gr.at hb1 (b := w.heap.size) (o := 1) (v := .slice fA fn fc) (by simp [go_sem])
  clear hb1
  -- @a
  go_wp2_with fail
  refine (HF.out _).mono ?_
  rintro e w2 ⟨rfl, hb2⟩
  clear HF
  replace d0 := Gr.at hb2 d0; replace d1 := Gr.at hb2 d1
  have g2 := g1.trans hb2
  clear g1 hb2
  go_wp2_with fail
  go_ret
  exact ⟨rfl, g2⟩
set_option maxRecDepth 100000 in
set_option maxHeartbeats 4000000 in
theorem mu_no (m : Ms.Mesh) (w : World) (h : m.At w) (hf : m.S.n ≤ 60 ∧ m.F.n ≤ 60) (hv : Ms.vlB m = false) : Calls Tryd.prog 4 #[m.val] w fun e w' => e = .returned (.bool true) ∧ Gr w w' := by
  have HA := Lib.hid (fun W => aw_any W)
  have HF := Lib.hid (fun W => few_any m W)
  rw [decide_eq_true hf.1, decide_eq_true hf.2, Bool.and_self] at HF
  have HN := Lib.hid (fun W (hW : Gr w W) => ms_Neighbours_no m W ⟨h.s.gr hW, h.f.gr hW⟩ (Or.inr ⟨by omega, by omega⟩) hv)
  have HV := Lib.hid (fun W (hW : Gr w W) => ms_valid m W ⟨h.s.gr hW, h.f.gr hW⟩ (Or.inr ⟨by omega, by omega⟩))
  rw [hv] at HV
  clear h hf hv
  unfold Ms.Mesh.val at *
  generalize m.S.A = sA at *; generalize m.S.n = sn at *; generalize m.S.c = sc at *; generalize m.F.A = fA at *; generalize m.F.n = fn at *; generalize m.F.c = fc at *
  go_enter Tryd.func4, Tryd.ntmps4
  go_wp2_with fail
  refine (HA.out _).mono ?_
  rintro e w1 ⟨rfl, hb1⟩
  clear HA
  have g1 : Gr w w1 := Gr.trans (by exact gr_auto) hb1
  have d0 := Gr.at hb1 (b := w.heap.size) (o := 0) (v := .slice sA sn sc) (by simp [go_sem])
  have d1 := Gr.at hb1 (b := w.heap.size) (o := 1) (v := .slice fA fn fc) (by simp [go_sem])
  clear hb1
  -- @a
  go_wp2_with fail
  refine (HF.out _).mono ?_
  rintro e w2 ⟨rfl, hb2⟩
  clear HF
  replace d0 := Gr.at hb2 d0; replace d1 := Gr.at hb2 d1
  have g2 := g1.trans hb2
  clear g1 hb2
  go_wp2_with fail
  -- @b
  refine (HN.out _ g2).mono ?_
  rintro e w3 ⟨rfl, hb3⟩
  replace d0 := Gr.at hb3 d0; replace d1 := Gr.at hb3 d1
  have g3 := g2.trans hb3
  clear HN g2 hb3
  go_wp2_with fail
  -- @c
  refine (HV.out _ g3).mono ?_
  rintro e w4 ⟨rfl, hb4⟩
  replace d0 := Gr.at hb4 d0; replace d1 := Gr.at hb4 d1
  have g4 := g3.trans hb4
  clear HV g3 hb4
  go_wp2_with fail
  -- @d
  go_ret
  exact ⟨rfl, g4⟩
set_option maxRecDepth 100000 in
set_option maxHeartbeats 4000000 in
theorem mu_yes (m : Ms.Mesh) (w : World) (h : m.At w) (hf : m.S.n ≤ 60 ∧ m.F.n ≤ 60) (hv : Ms.vlB m = true) : Calls Tryd.prog 4 #[m.val] w fun e w' => e = .returned (.bool true) ∧ Gr w w' := by
  have HA := Lib.hid (fun W => aw_any W)
  have HF := Lib.hid (fun W => few_any m W)
  rw [decide_eq_true hf.1, decide_eq_true hf.2, Bool.and_self] at HF
  have HN := Lib.hid (fun W (hW : Gr w W) => ms_neigh m W ⟨h.s.gr hW, h.f.gr hW⟩ ⟨by omega, by omega⟩ hv)
  have HB := Lib.hid (fun W (hW : Gr w W) => ms_border m W ⟨h.s.gr hW, h.f.gr hW⟩ ⟨by omega, by omega⟩ hv)
  have HCO := Lib.hid (fun W (hW : Gr w W) MB i k (hi : i < m.F.n) (hk : k < 4) h1 => mu_corner m MB i k hi hk W (h.f.gr hW) h1)
  have HSI := Lib.hid (fun W G hc => mu_sides m G m.F.n (by omega) W hc)
  have HOKl := Lib.hid (fun r h => (Ms.rows_ok hv).len r h)
  have HOKs := Lib.hid (fun r j h k => (Ms.rows_ok hv).side r j h k)
  have HOKa := Lib.hid (fun t h k => (Ms.rows_ok hv).all t h k)
  have HOKc := Lib.hid (Ms.rows_ok hv).cnt
  have HSC := Lib.hid (Ms.side_count hv)
  have HAA := Lib.hid (Ms.opA_opR m)
  have HBD := Lib.hid (show Ms.bdC m (3 * m.F.n) = Ms.bdN m from rfl)
  have HRA := Lib.hid (fun dn (h : ∀ t, t < 3 * m.F.n → Ms.op m t = none → t ∈ dn) x y e => Ms.opR_all (m := m) h x y e)
  have HAG := Lib.hid (fun t ht ho => Ms.opA_get hv (t := t) ht ho)
  have HRG := Lib.hid (fun t dn ht ho hn => Ms.opR_get hv (t := t) (dn := dn) ht ho hn)
  have HOP := Lib.hid (fun y u (hy : y < 3 * m.F.n) (e : Ms.op m y = some u) => And.intro (Ms.op_sides e) (And.intro (Ms.op_back hv hy e) (Ms.op_face hv hy e)))
  have HCN := Lib.hid (fun i (hi : i < m.F.n) k l (hk : k < 3) (hl : l < 3) e => Ms.cor_ne (Ms.vl_fc hv hi) (k := k) (l := l) hk hl e)
  have HST := Lib.hid (fun t (ht : t < 3 * m.F.n) => show Ba.i64 (Ms.st m t) from by obtain ⟨-, fo⟩ := h.f.hD (t / 3) (by omega); unfold Ms.st Ms.cor; split; exact fo.1; exact fo.2.1; exact fo.2.2.1)
  have HEN := Lib.hid (fun t (ht : t < 3 * m.F.n) => show Ba.i64 (Ms.en m t) from by obtain ⟨-, fo⟩ := h.f.hD (t / 3) (by omega); unfold Ms.en Ms.cor; split; exact fo.1; exact fo.2.1; exact fo.2.2.1)
  have HCI := Lib.hid (fun i (hi : i < m.F.n) r => show Ba.i64 (Ms.cor (m.F.D i) r) from by obtain ⟨-, fo⟩ := h.f.hD i hi; unfold Ms.cor; split; exact fo.1; exact fo.2.1; exact fo.2.2.1)
  have hn := hf.2
  clear h hf hv
  unfold RetNear at HN
  unfold RetBo at HB
  have hmm := @run_makeMap Tryd.prog
  unfold Ms.Mesh.val at *
  generalize m.S.A = sA at *; generalize m.S.n = sn at *; generalize m.S.c = sc at *; generalize m.F.A = fA at *; generalize m.F.n = fn at *; generalize m.F.c = fc at *
  go_enter Tryd.func4, Tryd.ntmps4
  go_wp2_with fail
  refine (HA.out _).mono ?_
  rintro e w1 ⟨rfl, hb1⟩
  clear HA
  have g1 : Gr w w1 := Gr.trans (by exact gr_auto) hb1
  have d0 := Gr.at hb1 (b := w.heap.size) (o := 0) (v := .slice sA sn sc) (by simp [go_sem])
  have d1 := Gr.at hb1 (b := w.heap.size) (o := 1) (v := .slice fA fn fc) (by simp [go_sem])
  clear hb1
  -- @a
  go_wp2_with fail
  refine (HF.out _).mono ?_
  rintro e w2 ⟨rfl, hb2⟩
  clear HF
  replace d0 := Gr.at hb2 d0; replace d1 := Gr.at hb2 d1
  have g2 := g1.trans hb2
  clear g1 hb2
  go_wp2_with fail
  -- @f
  refine (HN.out _ g2).mono ?_
  rintro e w3 ⟨v, rfl, G, rfl, -, hcn, hb3⟩
  replace d0 := Gr.at hb3 d0; replace d1 := Gr.at hb3 d1
  have g3 := g2.trans hb3
  have HNB := Lib.hid hcn
  clear HN g2 hb3 hcn
  go_wp2_with fail
  -- @g
  refine (HB.out _ g3).mono ?_
  rintro e w4 ⟨v, rfl, V, hbr, hb4⟩
  replace d0 := Gr.at hb4 d0; replace d1 := Gr.at hb4 d1
  have g4 := g3.trans hb4
  have HNB4 := Lib.hid (fun t ht => Gr.at hb4 (HNB.out t ht))
  obtain ⟨L, hL⟩ : ∃ L, (Ms.bS m (3 * fn)).2 = L := ⟨_, rfl⟩
  rw [hL] at hbr HOKl HOKs HOKa HOKc
  obtain ⟨A1, c1, b1, rfl, hA1, hn1, hc1, hr1⟩ := brd_rows hbr
  have HR1 := Lib.hid hr1
  clear HB g3 hb4 hbr hr1 hL HNB
  go_wp2_with fail
  -- @h
  obtain ⟨MM, hMM⟩ : ∃ B, w4.heap.size = B := ⟨_, rfl⟩
  obtain ⟨W0, hW0⟩ : ∃ W, w4.alloc (Obj.map #[] 0) = W := ⟨_, rfl⟩
  have g40 : Gr w4 W0 := hW0 ▸ Gr.alloc (Gr.refl w4) _
  have HM0 := Lib.hid (show MapIs Tryd.prog 48 W0 MM 0 (Ms.opA m 0) from by rw [← hW0, Ms.opA_zero]; exact map_made hMM.symm)
  have HC := Lib.hid (fun W (hW : Gr w4 W) i k hi hk => HCO.out W (g4.trans hW) w.heap.size i k hi hk (Gr.at hW d1))
  have HC' := Lib.hid (fun W (hW : Gr w4 W) i (k : Nat) (hi : i < fn) (hk : k < 3) => by have q := HC.out W hW i (k + 1) hi (by omega); rw [show ((k + 1 : Nat) : Int) = (k : Int) + 1 from by omega] at q; exact q)
  rw [hW0, hMM]
  have hwM : w.heap.size ≤ MM := by have := Gr.size g4; omega
  have HD1 := Lib.hid d1
  clear hW0 hmm HCO d0 d1
  -- @i
  go_loopw [65] (fun x wr => ∃ i : Nat, i ≤ fn ∧ x = .int .i64 (i : Int) ∧ Hid (MapIs Tryd.prog 48 wr MM (3 * i) (Ms.opA m (3 * i))) ∧ Gr w4 wr) (fun x _ => fn - (intOf x).toNat)
  case atStart => exact ⟨0, Nat.zero_le _, rfl, HM0, g40⟩
  case round =>
    clear HM0 g40
    obtain ⟨i, hi, rfl, HM, hg⟩ := hrel
    rename World => W1
    by_cases hlt : i < fn
    · have ib0 : (0 : Int) ≤ (i : Int) := by omega
      have ib1 : (i : Int) < (fn : Int) := by omega
      have q : ∀ k, k < 3 → W1.cell? ⟨G, i * 3 + k, none⟩ = some (.int .i64 (Ms.nb m i k)) := fun k hk => by
        have := Gr.at hg (HNB4.out (i * 3 + k) (by omega))
        rw [show (i * 3 + k) / 3 = i by omega, show (i * 3 + k) % 3 = k by omega] at this
        exact this
      have c0 : W1.cell? ⟨G, i * 3, none⟩ = some (.int .i64 (Ms.nb m i 0)) := q 0 (by omega)
      have c1 := q 1 (by omega); have c2 := q 2 (by omega)
      have bl := World.block_lt_of_cell? _ _ c0
      simp only at bl
      have HIX := Lib.hid (fun (k : Nat) (hk : k < 3) w => ix3 (Ms.nb m i 0) (Ms.nb m i 1) (Ms.nb m i 2) k hk w)
      clear q
      clear HSI HSC HAA HRG HOKl HOKs HOKa HOKc HR1
      -- @j
      go_wp2_with fail
      clear c0 c1 c2
      -- @k
      go_loopw [71] (fun x wr => ∃ k : Nat, k ≤ 3 ∧ x = .int .i64 (k : Int) ∧ Hid (MapIs Tryd.prog 48 wr MM (3 * i + k) (Ms.opA m (3 * i + k))) ∧ Gr w4 wr) (fun x _ => 3 - (intOf x).toNat)
      case atStart => exact ⟨0, by omega, rfl, Lib.hid (HM.out.gr (by exact gr_auto)), hg.trans (by exact gr_auto)⟩
      case round =>
        clear HM
        obtain ⟨k, hk, rfl, HM, hg2⟩ := hrel
        rename World => W2
        by_cases hlk : k < 3
        · have kb0 : (0 : Int) ≤ (k : Int) := by omega
          have kb1 : (k : Int) < 3 := by omega
          obtain ⟨t, ht⟩ : ∃ t, 3 * i + k = t := ⟨_, rfl⟩
          have hop : Ms.op m t = Ms.acO m i k := by rw [← ht, Ms.op_at m hlk]
          have hst : Ms.st m t = Ms.cor (m.F.D i) k := by rw [← ht, Ms.st_at m hlk]
          have hen : Ms.en m t = Ms.cor (m.F.D i) (k + 1) := by rw [← ht, Ms.en_at m hlk]
          have ht3 : t < 3 * fn := by omega
          have hti : t / 3 = i := by omega
          have hx : ∀ w, (Instr.index 47 (.agg #[.int .i64 (Ms.nb m i 0), .int .i64 (Ms.nb m i 1), .int .i64 (Ms.nb m i 2)]) (.int .i64 (k : Int))).run Tryd.prog w = .ok (.int .i64 (Ms.nb m i k)) w := fun w => by
            rw [HIX.out k hlk w]
            rcases (by omega : k = 0 ∨ k = 1 ∨ k = 2) with rfl | rfl | rfl <;> rfl
          have HU := Lib.hid (fun W hW => HC.out W hW i k hlt (by omega))
          have HV := Lib.hid (fun W hW => HC'.out W hW i k hlt hlk)
          have hiu := HCI.out i hlt k; have hiv := HCI.out i hlt (k + 1)
          rw [ht] at HM
          have hsu : Ms.cor (m.F.D i) (k + 1) = Ms.en m t := hen.symm
          rw [← hst] at HU hiu
          rw [← hen] at HV hiv
          clear hst hen hsu
          have k61 : (k : Int) + 1 ≤ 9223372036854775807 := by omega
          have k62 : (-9223372036854775808 : Int) ≤ (k : Int) + 1 := by omega
          cases hq : Ms.acO m i k with
          | none =>
            have hv : Ms.nb m i k = -1 := by unfold Ms.nb; rw [hq]
            rw [hv] at hx
            have hag := HAG.out t ht3 (hop.trans hq)
            have HAN := Lib.hid (fun x hx => Ms.opA_ne (m := m) (t := t) x hx)
            clear hv hq hop HNB4 HCN HCI HOP HC HC' HIX HAG
            have HT := Lib.hid ht
            clear ht
            generalize Ms.nb m i 0 = n0 at *; generalize Ms.nb m i 1 = n1 at *; generalize Ms.nb m i 2 = n2 at *
            generalize Ms.st m t = cu at *; generalize Ms.en m t = cv at *
            have HAG := Lib.hid hag
            clear hag
            -- @l
            go_wp2_with fail
            -- @m
            refine (HU.out _ hg2).mono ?_
            rintro e w5 ⟨rfl, hb5⟩
            have g5 := hg2.trans hb5
            have HM5 := Lib.hid (HM.out.gr hb5)
            clear HU HM hb5 hg2
            go_wp2_with fail
            -- @n
            refine (HV.out _ g5).mono ?_
            rintro e w6 ⟨rfl, hb6⟩
            have g6 := g5.trans hb6
            have HM6 := Lib.hid (HM5.out.gr hb6)
            clear HV HM5 hb6 g5
            go_wp2_with fail
            -- @o
            obtain ⟨sp, w7, r1, r2, r3, r4⟩ := mu_bump (v := 0) (HM6.out.gr (Gr.drew (Gr.refl w6))) hiu hiv (by rw [HAG.out.1]; rfl)
            obtain ⟨w8, r5, gx8, hm8⟩ := r4 1
            have HM8 := Lib.hid (hm8 (Ms.opA m (t + 1)) HAG.out.2 HAN.out)
            have g8 := GrX.gr (g6.trans (Gr.drew (Gr.refl w6))) (by omega) gx8
            clear r4 hm8 gx8 HM6 g6 hiu hiv HAG HAN
            -- @p
            go_region
            -- @q
            all_goals (
              go_wp2_with fail
              -- @r
              go_roundw
              case rel => exact ⟨k + 1, by omega, by go_num, by rw [show 3 * i + (k + 1) = t + 1 by have := HT.out; omega]; exact HM8, g8⟩
              case measure => simp [intOf]; omega)
          | some u =>
            have hv : Ms.nb m i k = ((u / 3 : Nat) : Int) := by unfold Ms.nb; rw [hq]
            rw [hv] at hx
            obtain ⟨⟨hu, hsu, heu⟩, hbk, hfu⟩ := HOP.out t u ht3 (hop.trans hq)
            rw [hti] at hfu
            have hsk := Lib.hid (Ms.opA_skip (hop.trans hq))
            obtain ⟨p, hp⟩ : ∃ p, u / 3 = p := ⟨_, rfl⟩
            obtain ⟨j0, hj0⟩ : ∃ j, u % 3 = j := ⟨_, rfl⟩
            have hj3 : j0 < 3 := by omega
            have hpf : p < fn := by omega
            have hnt : Ms.nb m p j0 = (i : Int) := by
              unfold Ms.nb
              rw [← hp, ← hj0]
              have e : Ms.acO m (u / 3) (u % 3) = some t := hbk
              rw [e, ← hti]
            have hus : Ms.cor (m.F.D p) j0 = Ms.en m t := by rw [← hsu, ← hp, ← hj0]; rfl
            have hue : Ms.cor (m.F.D p) (j0 + 1) = Ms.st m t := by rw [← heu, ← hp, ← hj0]; rfl
            rw [hp] at hx hfu
            have hcc : ∀ (W : World), Gr w4 W → ∀ j, j < 3 → W.cell? ⟨G, p * 3 + j, none⟩ = some (.int .i64 (Ms.nb m p j)) := fun W hW j hj => by
              have := Gr.at hW (HNB4.out (p * 3 + j) (by omega))
              rw [show (p * 3 + j) / 3 = p by omega, show (p * 3 + j) % 3 = j by omega] at this
              exact this
            have HCT := Lib.hid (fun (W : World) (hW : Gr w4 W) => (show Calls Tryd.prog 20 #[.slice (some ⟨G, p * 3, none⟩) 3 3, .int .i64 (i : Int)] W (fun e w' => e = .returned (.bool true) ∧ w' = W) from by
              have q := Tryd.slices_Contains_int G (p * 3) 3 3 [Ms.nb m p 0, Ms.nb m p 1, Ms.nb m p 2] (i : Int) W (Nat.le_refl _) (by omega) (fun j hj => by
                have h3 : j < 3 := hj
                rw [hcc W hW j h3]
                rcases (by omega : j = 0 ∨ j = 1 ∨ j = 2) with rfl | rfl | rfl <;> rfl)
              have e : (([Ms.nb m p 0, Ms.nb m p 1, Ms.nb m p 2].take 3).contains (i : Int)) = true := by
                rw [← hnt]
                rcases (by omega : j0 = 0 ∨ j0 = 1 ∨ j0 = 2) with rfl | rfl | rfl <;> simp
              rw [e] at q; exact q))
            have HJC := Lib.hid (fun W hW j (hj : j < 3) => HC.out W hW p j hpf (by omega))
            have HJD := Lib.hid (fun W hW j (hj : j < 3) => HC'.out W hW p j hpf hj)
            have HJN := Lib.hid (fun j (hj : j < 3) (hne : j ≠ j0) (e : Ms.cor (m.F.D p) j = Ms.en m t) => hne (HCN.out p hpf j j0 hj hj3 (e.trans hus.symm)))
            have HJG := Lib.hid hcc
            have HJ1 := Lib.hid (And.intro hus (And.intro hue hnt))
            have HT := Lib.hid (And.intro ht hti)
            clear ht hti hv hq hop hu hsu heu hbk hp hj0 hnt hus hue hcc HNB4 HCN HCI HOP HC HC' HIX HAG hiu hiv
            have pf0 : (0 : Int) ≤ (p : Int) := by omega
            have pf1 : (p : Int) < (fn : Int) := by omega
            have pf2 : ¬ (p : Int) = (i : Int) := by omega
            have pf3 : ¬ (fn : Int) ≤ (p : Int) := by omega
            have pf4 : ¬ (p : Int) < 0 := by omega
            have pf5 : ((p : Int) == (i : Int)) = false := by simp; omega
            generalize Ms.nb m i 0 = n0 at *; generalize Ms.nb m i 1 = n1 at *; generalize Ms.nb m i 2 = n2 at *
            generalize Ms.st m t = cu at *; generalize Ms.en m t = cv at *
            -- @ua
            go_wp2_with fail
            -- @ub
            refine (HU.out _ hg2).mono ?_
            rintro e w5 ⟨rfl, hb5⟩
            have g5 := hg2.trans hb5
            have HM5 := Lib.hid (HM.out.gr hb5)
            clear HU HM hb5 hg2
            go_wp2_with fail
            -- @uc
            refine (HV.out _ g5).mono ?_
            rintro e w6 ⟨rfl, hb6⟩
            have g6 := g5.trans hb6
            have HM6 := Lib.hid (HM5.out.gr hb6)
            clear HV HM5 hb6 g5
            have cp0 : w6.cell? ⟨G, p * 3, none⟩ = some (.int .i64 (Ms.nb m p 0)) := HJG.out w6 g6 0 (by omega)
            have cp1 := HJG.out w6 g6 1 (by omega); have cp2 := HJG.out w6 g6 2 (by omega)
            have K6 := Lib.hid (And.intro k61 k62)
            clear k61 k62 hx
            go_wp2_with fail
            -- @ud
            refine (HCT.out _ g6).mono ?_
            rintro e w7 ⟨rfl, rfl⟩
            clear HCT cp0 cp1 cp2
            go_wp2_with fail
            have x97 : decide (fn ≤ p) = false := decide_eq_false (by omega)
            simp only [x97]
            clear pf2 pf3 pf4 pf5 hfu x97
            -- @ue
            go_loopw [15, 112] (fun b x wr => ∃ j : Nat, j ≤ 3 ∧ x = .int .i64 (j : Int) ∧ b = .bool (decide (j0 < j)) ∧ Hid (MapIs Tryd.prog 48 wr MM t (Ms.opA m t)) ∧ Gr w4 wr) (fun _ x _ => 3 - (intOf x).toNat)
            case atStart => exact ⟨0, by omega, rfl, by rw [decide_eq_false (by omega)], by rw [← HT.out.1]; rw [HT.out.1]; exact HM6, g6⟩
            case round =>
              clear HM6 g6
              obtain ⟨j, hj, rfl, rfl, HM8, g8⟩ := hrel
              rename World => W8
              by_cases hlj : j < 3
              · have jb0 : (0 : Int) ≤ (j : Int) := by omega
                have jb1 : (j : Int) < 3 := by omega
                have cj := HJG.out W8 g8 j hlj
                have bj := World.block_lt_of_cell? _ _ cj
                simp only at bj
                have HJ2 := Lib.hid (HJN.out j hlj)
                clear hpf
                -- @uf
                rcases Nat.lt_trichotomy j j0 with q | q | q
                · rw [decide_eq_false (show ¬ j0 < j by omega)]
                  have EB := Lib.hid (decide_eq_false (show ¬ j0 < j + 1 by omega))
                  have HU8 := Lib.hid (HJC.out W8 g8 j hlj)
                  have hne := HJ2.out (by omega)
                  generalize Ms.cor (m.F.D p) j = cj' at *
                  have hne2 : (cj' == cv) = false := by simpa using hne
                  replace hne : ¬ cj' = cv := hne
                  clear HJC HJD HJN HJG HJ1 HJ2 cj bj q
                  -- @ug
                  go_wp2_with fail
                  -- @uh
                  refine HU8.out.mono ?_
                  rintro e w9 ⟨rfl, hb9⟩
                  have g9 := g8.trans hb9
                  have HM9 := Lib.hid (HM8.out.gr hb9)
                  clear HU8 HM8 hb9 g8
                  go_wp2_with fail
                  -- @ui
                  go_roundw
                  -- @ui1
                  case rel => exact ⟨j + 1, by omega, by go_num, by rw [EB.out], HM9, g9⟩
                  case measure => simp [intOf]; omega
                · subst q
                  rw [decide_eq_false (show ¬ j < j by omega)]
                  have EB := Lib.hid (decide_eq_true (show j < j + 1 by omega))
                  have HU8 := Lib.hid (HJC.out W8 g8 j hlj)
                  have HV8 := Lib.hid (fun W hW => HJD.out W hW j hlj)
                  rw [HJ1.out.1] at HU8
                  rw [HJ1.out.2.1] at HV8
                  rw [HJ1.out.2.2] at cj
                  have HCJ := Lib.hid cj
                  clear HJC HJD HJN HJG HJ1 HJ2 cj
                  -- @uj
                  go_wp2_with fail
                  refine HU8.out.mono ?_
                  rintro e w9 ⟨rfl, hb9⟩
                  have g9 := g8.trans hb9
                  have HM9 := Lib.hid (HM8.out.gr hb9)
                  replace HCJ := Lib.hid (Gr.at hb9 HCJ.out)
                  clear HU8 HM8 hb9 g8
                  go_wp2_with fail
                  -- @uk
                  refine (HV8.out _ g9).mono ?_
                  rintro e w10 ⟨rfl, hb10⟩
                  have g10 := g9.trans hb10
                  replace HM9 := Lib.hid (HM9.out.gr hb10)
                  have cj := Gr.at hb10 HCJ.out
                  have bj := World.block_lt_of_cell? _ _ cj
                  have c0 : w10.cell? ⟨G, p * 3, none⟩ = w10.cell? ⟨G, p * 3, none⟩ := rfl
                  simp only at bj
                  clear HV8 hb10 g9 HCJ c0
                  go_wp2_with fail
                  -- @ul
                  go_roundw
                  case rel => exact ⟨j + 1, by omega, by go_num, by rw [EB.out], HM9, g10⟩
                  case measure => simp [intOf]; omega
                · rw [decide_eq_true q]
                  have EB := Lib.hid (decide_eq_true (show j0 < j + 1 by omega))
                  have HM9 := HM8
                  clear HJC HJD HJN HJG HJ1 HJ2 cj bj q HM8
                  -- @um
                  go_wp2_with fail
                  -- @un
                  go_roundw
                  case rel => exact ⟨j + 1, by omega, by go_num, by rw [EB.out], HM9, g8⟩
                  case measure => simp [intOf]; omega
              · obtain rfl : j = 3 := by omega
                rw [decide_eq_true hj3]
                have HM9 := Lib.hid (show MapIs Tryd.prog 48 W8 MM (3 * i + (k + 1)) (Ms.opA m (3 * i + (k + 1))) from by
                  rw [show 3 * i + (k + 1) = t + 1 by have := HT.out.1; omega, hsk.out]
                  exact HM8.out.mono (Nat.le_succ t))
                clear HJC HJD HJN HJG HJ1 HM8 hsk
                -- @uo
                go_wp2_with fail
                -- @up
                go_roundw
                case rel => exact ⟨k + 1, by omega, by go_num, HM9, g8⟩
                case measure => simp [intOf]; omega
        · obtain rfl : k = 3 := by omega
          have HM9 := Lib.hid (show MapIs Tryd.prog 48 W2 MM (3 * (i + 1)) (Ms.opA m (3 * (i + 1))) from HM.out)
          clear HM HIX
          -- @va
          go_wp2_with fail
          -- @vb
          go_roundw
          case rel => exact ⟨i + 1, by omega, by go_num, HM9, hg2⟩
          case measure => simp [intOf]; omega
    · obtain rfl : fn = i := by omega
      have d1 := Gr.at hg HD1.out
      have HNB1 := Lib.hid (fun t ht => Gr.at hg (HNB4.out t ht))
      have HS := Lib.hid (HSI.out W1 G HNB1.out)
      have hsc := HBD.out
      have hq := HSC.out
      obtain ⟨bd, hbd⟩ : ∃ k, Ms.bdC m (3 * fn) = k := ⟨_, rfl⟩
      rw [hbd] at HS hsc
      rw [← hsc] at hq
      obtain ⟨inn, hinn⟩ : ∃ k, (3 * fn - bd) / 2 = k := ⟨_, rfl⟩
      rw [hinn] at HS hq
      have HMR := Lib.hid (show MapIs Tryd.prog 48 W1 MM (3 * fn) (Ms.opR m []) from HAA.out ▸ HM.out)
      have HOC := Lib.hid (show (Ms.upTo L L.length 0).length = bd from HOKc.out.trans hsc.symm)
      have HULE := Lib.hid (fun r (hr : r ≤ L.length) => Nat.le_trans (Ms.upTo_le L hr) (Nat.le_of_eq HOC.out))
      have e35 : (3 : Int) * (fn : Int) = (bd : Int) + 2 * (inn : Int) := by omega
      have e36 : (bd : Int) + 2 * (inn : Int) ≤ 180 := by omega
      have e37 : (2 : Int) * (inn : Int) ≤ 180 := by omega
      have e38 : (3 : Int) * (fn : Int) ≤ 180 := by omega
      have e39 : ((3 : Int) * (fn : Int) == (bd : Int) + 2 * (inn : Int)) = true := by rw [e35]; exact beq_self_eq_true _
      have hbd2 : bd ≤ 180 := by omega
      clear hbd hsc hq hinn HSI HSC HBD HAA HM HNB4 HNB1 HC HC' HCI HCN HOP HAG
      -- @xa
      go_wp2_with fail
      -- @xb
      refine HS.out.mono ?_
      rintro e w5 ⟨rfl, hb5⟩
      replace d1 := Gr.at hb5 d1
      have g5 := hg.trans hb5
      have HM5 := Lib.hid (⟨_, HMR.out.gr hb5⟩ : ∃ N, MapIs Tryd.prog 48 w5 MM N (Ms.opR m []))
      clear HS HMR hb5 hg
      have E35 := Lib.hid e35
      go_wp2_with fail
      -- @xc
      clear e35 e36 e37 e38 e39 d1
      go_loopw [19, 164] (fun v x wr => ∃ r : Nat, r ≤ L.length ∧ x = .int .i64 (r : Int) ∧ v = .int .i64 (((Ms.upTo L r 0).length : Nat) : Int) ∧ Hid (∃ N, MapIs Tryd.prog 48 wr MM N (Ms.opR m (Ms.upTo L r 0))) ∧ Gr w4 wr) (fun _ x _ => L.length - (intOf x).toNat)
      case atStart => exact ⟨0, Nat.zero_le _, rfl, by rw [Ms.upTo_zero]; rfl, by rw [Ms.upTo_zero]; exact HM5, g5⟩
      case round =>
        clear HM5 g5
        obtain ⟨r, hr, rfl, rfl, HM, hg⟩ := hrel
        rename World => W2
        have hul := HULE.out r hr
        by_cases hlr : r < L.length
        · obtain rfl := hA1 (by omega)
          have rb0 : (0 : Int) ≤ (r : Int) := by omega
          have rb1 : (r : Int) < (L.length : Int) := by omega
          obtain ⟨P, C, B, p1, p2, p3, p4, p5⟩ := HR1.out r hlr
          replace p1 := Gr.at hg p1
          have hn3 := HOKl.out r hlr
          have HSD := Lib.hid (fun j => HOKs.out r j hlr)
          have HUR := Lib.hid (Ms.upTo_row L hlr)
          have HUL := Lib.hid (Ms.upTo_len L hlr)
          have hul2 := HULE.out (r + 1) hlr
          rw [HUL.out] at hul2
          have HUS := Lib.hid (fun j t (h : (L.getD r [])[j]? = some t) => Ms.upTo_step h)
          have HP5 := Lib.hid p5
          obtain rfl := p4 (by show 0 < (L.getD r []).length; omega)
          clear HR1 HOKl HOKs HOKa HULE HOC p5 p4 HRA
          obtain ⟨len, hlen⟩ : ∃ k, L.length = k := ⟨_, rfl⟩
          simp only [hlen] at *
          obtain ⟨x, hx⟩ : ∃ x, L.getD r [] = x := ⟨_, rfl⟩
          rw [hx] at HSD HUR HUL HP5 HUS hn3 hul2
          simp only [hx] at p1 p2
          obtain ⟨u0, hu0⟩ : ∃ k, (Ms.upTo L r 0).length = k := ⟨_, rfl⟩
          rw [hu0] at HUL hul hul2 ⊢
          obtain ⟨n, hnx⟩ : ∃ k, x.length = k := ⟨_, rfl⟩
          rw [hnx] at HSD HUR HUL hn3 hul2 p1 p2
          simp only [hnx] at HP5
          have HU0 := Lib.hid hu0
          clear hx hnx hu0
          have q1 : ¬ (n : Int) < 3 := by omega
          have q2 : (u0 : Int) + (n : Int) ≤ 9223372036854775807 := by omega
          have q3 : (-9223372036854775808 : Int) ≤ (u0 : Int) + (n : Int) := by omega
          -- @xd
          go_wp2_with fail
          -- @xe
          clear p1
          go_loopw [177] (fun y wr => ∃ j : Nat, j ≤ n ∧ y = .int .i64 (j : Int) ∧ Hid (∃ N, MapIs Tryd.prog 48 wr MM N (Ms.opR m (Ms.upTo L r j))) ∧ Gr w4 wr) (fun y _ => n - (intOf y).toNat)
          case atStart => exact ⟨0, Nat.zero_le _, rfl, HM, hg⟩
          case round =>
            clear HM hg
            obtain ⟨j, hj, rfl, HM, hg⟩ := hrel
            rename World => W3
            by_cases hlj : j < n
            · have jb0 : (0 : Int) ≤ (j : Int) := by omega
              have jb1 : (j : Int) < (n : Int) := by omega
              obtain ⟨t, t1, t2, t3, t4, t5, t6⟩ := HSD.out j hlj
              obtain ⟨q, hq⟩ : ∃ q, (j + 1) % n = q := ⟨_, rfl⟩
              have hqn : q < n := by rw [← hq]; exact Nat.mod_lt _ (by omega)
              have c0 := Gr.at hg (HP5.out j hlj)
              have c1 := Gr.at hg (HP5.out q hqn)
              rw [hq] at t5
              rw [t2] at c0
              rw [t5] at c1
              have hrg := HRG.out t (Ms.upTo L r j) t3 t4 t6
              have HUJ := Lib.hid (HUS.out j t t1)
              have HRN := Lib.hid (fun x hx => Ms.opR_ne (m := m) (t := t) (dn := Ms.upTo L r j) x hx)
              have hiu : Ba.i64 (Ms.st m t) := HST.out t t3
              have hiv : Ba.i64 (Ms.en m t) := HEN.out t t3
              have m2 : ((j : Int) + 1) % (n : Int) = (q : Int) := by rw [← hq, Int.natCast_emod, Int.natCast_add]; rfl
              have m1 : ((j : Int) + 1).tmod (n : Int) = (q : Int) := by rw [Int.tmod_eq_emod_of_nonneg (by omega)]; exact m2
              have qb0 : (0 : Int) ≤ (q : Int) := by omega
              have qb1 : (q : Int) < (n : Int) := by omega
              have n0 : ¬ (n : Int) = 0 := by omega
              have jb2 : (j : Int) + 1 ≤ 9223372036854775807 := by omega
              have bl := World.block_lt_of_cell? _ _ c0
              simp only at bl
              clear HSD HP5 HUS t1 t2 t3 t4 t5 t6 hq HRG HST HEN
              generalize Ms.st m t = cu at *; generalize Ms.en m t = cv at *
              have HRG := Lib.hid hrg
              clear hrg
              obtain ⟨N, hMn⟩ := HM.out
              obtain ⟨sp, w7, r1, r2, r3, r4⟩ := mu_bump (v := 1) (hMn.gr (Gr.drew (Gr.refl W3))) hiu hiv (by rw [HRG.out.1]; rfl)
              obtain ⟨w8, r5, gx8, hm8⟩ := r4 0
              have HM8 := Lib.hid (⟨_, hm8 (Ms.opR m (Ms.upTo L r j ++ [t])) HRG.out.2 HRN.out⟩ : ∃ N, MapIs Tryd.prog 48 w8 MM N (Ms.opR m (Ms.upTo L r j ++ [t])))
              have g8 := GrX.gr (hg.trans (Gr.drew (Gr.refl W3))) (by omega) gx8
              clear r4 hm8 gx8 HM hMn hiu hiv HRG HRN
              -- @xf
              go_upto_region 47 with fail
              -- @xg
              have cd0 := Gr.at (Gr.drew (Gr.refl W3)) c0
              have cd1 := Gr.at (Gr.drew (Gr.refl W3)) c1
              go_region
              -- @xh
              all_goals (
                go_wp2_with fail
                go_roundw
                case rel => exact ⟨j + 1, by omega, by go_num, by rw [HUJ.out]; exact HM8, g8⟩
                case measure => simp [intOf]; omega)
            · obtain rfl : n = j := by omega
              have HM9 := Lib.hid (show ∃ N, MapIs Tryd.prog 48 W3 MM N (Ms.opR m (Ms.upTo L (r + 1) 0)) from HUR.out ▸ HM.out)
              have eu : ((Ms.upTo L (r + 1) 0).length : Int) = (u0 : Int) + (n : Int) := by have := HUL.out; omega
              have EU := Lib.hid eu
              clear HM HUR HUL eu
              -- @xi
              go_wp2_with fail
              -- @xj
              go_roundw
              case rel => exact ⟨r + 1, by omega, by go_num, by rw [EU.out], HM9, hg⟩
              case measure => simp [intOf]; omega
        · obtain hrL : L.length = r := by omega
          have hall := HOKa.out
          obtain ⟨N, hMn⟩ := HM.out
          rw [← hrL] at hMn ⊢
          rw [HOC.out]
          have hz := HRA.out (Ms.upTo L L.length 0) hall
          clear HR1 HOKl HOKs HOKa HULE HOC HRA hall hul HM HRG HST HEN
          -- @xk
          obtain ⟨w9, cnt, hrun, hb9, HI⟩ := ItM.start hMn Tryd.underlying46 (c := .int .i64 0) (fun key v e => hz key v e)
          have g9 := hg.trans hb9
          obtain ⟨IB, hIB⟩ : ∃ B, W2.heap.size = B := ⟨_, rfl⟩
          rw [hIB] at hrun HI
          have hIM : IB ≠ MM := by have := hMn.lt; omega
          have hI4 : w4.heap.size ≤ IB := by have := Gr.size hg; omega
          have HI9 := Lib.hid HI
          clear hMn hz hb9 hg HI hIB
          -- @xl
          go_wp2_with fail
          -- @xm
          go_loopw [25] (fun _ wr => ∃ cnt, Hid (ItM wr MM IB cnt (.int .i64 0)) ∧ Gr w4 wr) (fun _ wr => itLeft wr IB MM)
          case atStart => exact ⟨cnt, HI9, g9⟩
          case round =>
            clear HI9 g9
            obtain ⟨cnt, HI, hg⟩ := hrel
            rename World => W5
            -- @xn
            rcases HI.out.step (P := Tryd.prog) hIM 0 with ⟨h0, hrun2⟩ | ⟨key, w10, cnt2, hlt, hrun2, HI2, hent, hgx⟩
            ·
              -- @xo
              go_wp2_with fail
              -- @xp
              go_ret
              exact ⟨rfl, g4.trans hg⟩
            · have HI3 := Lib.hid HI2
              have hm1 := itLeft_eq HI.out; have hm2 := itLeft_eq HI2
              have g10 := GrX.gr hg hI4 hgx
              have HMS := Lib.hid (show itLeft w10 IB MM < itLeft W5 IB MM from by rw [hm1, hm2]; exact hlt)
              clear hm1 hm2 HI HI2 hgx hlt hg
              -- @xq
              go_wp2_with fail
              -- @xr
              go_roundw
              case rel => exact ⟨cnt2, HI3, g10⟩
              case measure => exact HMS.out
/-- MeshMutual returns true. -/
theorem mutual_law (s : Ba.SlSpot) (f : Ba.SlFace) (w : World) (h1 : s.At w) (h2 : f.At w) : Calls Tryd.prog 4 #[(Ms.Mesh.mk s f).val] w fun e w' => e = .returned (.bool true) ∧ Gr w w' := by
  by_cases hf : s.n ≤ 60 ∧ f.n ≤ 60
  · cases hv : Ms.vlB (Ms.Mesh.mk s f)
    · exact mu_no _ w ⟨h1, h2⟩ hf hv
    · exact mu_yes _ w ⟨h1, h2⟩ hf hv
  · exact mu_out _ w hf
end Go.Proofs.YtajhhplgcegodaaDoor
