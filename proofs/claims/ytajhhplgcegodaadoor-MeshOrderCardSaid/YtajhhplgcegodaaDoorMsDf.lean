/-
  Surfaces: findings of one kind are counted: slices.IndexFunc, slices.DeleteFunc, the law's closures. (Printed by mkdf.py.)
-/
import Derived.Test.YtajhhplgcegodaaDoorMsCh
import Derived.Test.YtajhhplgcegodaaDoorMsOp
import Derived.Lib.SliceRun
set_option linter.unusedVariables false
set_option linter.unusedSimpArgs false
namespace Go.Proofs.YtajhhplgcegodaaDoor
open Go.RowKit
theorem fd_clo (k : Int) (KB : Nat) (a : Int) (s : ByteArray) (w : World) (h : w.cell? ⟨KB, 0, none⟩ = some (.int .i64 k)) : Calls Tryd.prog 30 #[.agg #[.int .i64 a, .string s], .pointer (some ⟨KB, 0, none⟩)] w fun e w' => e = .returned (.bool (!(a == k))) ∧ Gr w w' := by
  have hlt := World.block_lt_of_cell? _ _ h
  simp only at hlt
  go_enter Tryd.func30, Tryd.ntmps30
  go_wp2_with fail
  go_ret
  exact ⟨rfl, by exact gr_auto⟩
namespace Ms
/-- The finding is of another kind. -/
def ok_ (K : Nat → Int) (k : Int) (j : Nat) : Bool := !(K j == k)
/-- How many of the first n are of the kind. -/
def kc (K : Nat → Int) (k : Int) (n : Nat) : Nat := (idx (fun j => K j == k) n).length
theorem kc_le (K : Nat → Int) (k : Int) (n : Nat) : kc K k n ≤ n := idx_le _ _
theorem kc_yes {K : Nat → Int} {k : Int} {n : Nat} (h : ok_ K k n = false) : kc K k (n + 1) = kc K k n + 1 := by
  unfold kc; rw [idx_yes (by simpa [ok_] using h), List.length_append]; rfl
theorem kc_no {K : Nat → Int} {k : Int} {n : Nat} (h : ok_ K k n = true) : kc K k (n + 1) = kc K k n := by
  unfold kc; rw [idx_no (by simpa [ok_] using h)]
theorem kc_all {K : Nat → Int} {k : Int} : ∀ {n : Nat}, Ba.fst (ok_ K k) n = none → kc K k n = n
  | 0, _ => rfl
  | n + 1, h => by
    have hn := Ba.fst_some.fst_no h
    rw [kc_yes (hn n (by omega)), kc_all]
    cases e : Ba.fst (ok_ K k) n with
    | none => rfl
    | some i =>
      obtain ⟨a, b, -⟩ := Ba.fst_some e
      rw [hn i (by omega)] at b; cases b
theorem kc_before {K : Nat → Int} {k : Int} {n i : Nat} (h : ∀ j, j < i → ok_ K k j = false) : kc K k i = i := by
  induction i with
  | zero => rfl
  | succ i ih => rw [kc_yes (h i (by omega)), ih fun j hj => h j (by omega)]
theorem kc_first {K : Nat → Int} {k : Int} {n i : Nat} (h : Ba.fst (ok_ K k) n = some i) : kc K k (i + 1) = i := by
  obtain ⟨-, b, c⟩ := Ba.fst_some h
  rw [kc_no b, kc_before (n := n) c]
theorem kc_fnd (L : List (Nat × Nat)) (k : Nat) : kc (fK L) (k : Int) L.length = (L.filter fun p => p.1 == k).length := by
  have key : ∀ n, n ≤ L.length → kc (fK L) (k : Int) n = ((L.take n).filter fun p => p.1 == k).length := by
    intro n
    induction n with
    | zero => intro _; rfl
    | succ n ih =>
      intro hn
      have hl : L[n]? = some (L.getD n (0, 0)) := by rw [List.getElem?_eq_getElem (by omega), List.getD, List.getElem?_eq_getElem (by omega)]; rfl
      have e0 : fK L n = ((L.getD n (0, 0)).1 : Int) := rfl
      rw [List.take_add_one, List.filter_append, List.length_append, ← ih (by omega), hl]
      generalize L.getD n (0, 0) = a at *
      cases e : ok_ (fK L) (k : Int) n
      · rw [kc_yes e]
        have e2 : a.1 = k := by
          unfold ok_ at e
          rw [e0] at e
          simp only [Bool.not_eq_false', beq_iff_eq] at e
          omega
        simp [e2]
      · rw [kc_no e]
        have e2 : ¬ a.1 = k := by
          intro h
          unfold ok_ at e
          rw [e0, h] at e; simp at e
        simp [e2]
  rw [key _ (Nat.le_refl _), List.take_length]
end Ms
set_option maxRecDepth 100000 in
set_option maxHeartbeats 8000000 in
theorem idx_find (k : Int) (KB : Nat) (K : Nat → Int) (T : Nat → ByteArray) (A : Option Addr) (n c b : Nat) (w : World) (hk : w.cell? ⟨KB, 0, none⟩ = some (.int .i64 k)) (hn : n ≤ 9223372036854775807) (hA : 0 < n → A = some ⟨b, 0, none⟩) (hc : ∀ i, i < n → w.cell? ⟨b, i * 2, none⟩ = some (.int .i64 (K i)) ∧ w.cell? ⟨b, i * 2 + 1, none⟩ = some (.string (T i))) :
    Calls Tryd.prog 75 #[.slice A n c, .func (.func 30) #[] #[.pointer (some ⟨KB, 0, none⟩)]] w fun e w' => e = .returned (.int .i64 (Ba.fstI (Ms.ok_ K k) n)) ∧ Gr w w' := by
  have HHIT := Lib.hid (fun i (h : Ba.fst (Ms.ok_ K k) i = none) hp (hi : i < n) => show Ba.fstI (Ms.ok_ K k) n = (i : Int) from Ba.fstI_hit h hp hi)
  have HMISS := Lib.hid (fun i (h : Ba.fst (Ms.ok_ K k) i = none) hp => Ba.fst_miss (i := i) h hp)
  have HNO := Lib.hid (fun (h : Ba.fst (Ms.ok_ K k) n = none) => show Ba.fstI (Ms.ok_ K k) n = -1 from Ba.fstI_none h)
  have HP := Lib.hid (fun i => show Ms.ok_ K k i = !(K i == k) from rfl)
  have HC := Lib.hid hc; have HA := Lib.hid hA
  have HCL := Lib.hid (fun a s W (hW : Gr w W) => fd_clo k KB a s W (Gr.at hW hk))
  clear hc hA hk
  generalize Ba.fstI (Ms.ok_ K k) n = RV at *
  generalize Ms.ok_ K k = P at *
  go_enter Tryd.func75, Tryd.ntmps75
  go_wp2_with fail
  go_loopw [8] (fun x wr => ∃ i : Nat, i ≤ n ∧ x = .int .i64 (i : Int) ∧ Hid (Ba.fst P i = none) ∧ Gr w wr) (fun x _ => n - (intOf x).toNat)
  case atStart => exact ⟨0, Nat.zero_le _, rfl, Lib.hid rfl, Gr.refl _⟩
  case round =>
    obtain ⟨i, hi, rfl, HQ, hg⟩ := hrel
    rename World => W1
    by_cases hlt : i < n
    · obtain rfl := HA.out (by omega)
      have ib0 : (0 : Int) ≤ (i : Int) := by omega
      have ib1 : (i : Int) < (n : Int) := by omega
      obtain ⟨a0, a1⟩ := HC.out i hlt
      replace a0 := Gr.at hg a0; replace a1 := Gr.at hg a1
      have HCi := Lib.hid (HCL.out (K i) (T i) W1 hg)
      have hp := HP.out i
      clear HCL HP HC HA
      generalize K i = x at *; generalize T i = s at *
      cases e : (x == k)
      · have HN := Lib.hid (HHIT.out i HQ.out (by rw [hp, e]; rfl) hlt)
        rw [e] at HCi
        clear HHIT HMISS HNO HQ hp e
        go_wp2_with fail
        -- @a
        refine HCi.out.mono ?_
        rintro e w5 ⟨rfl, hb5⟩
        go_wp2_with fail
        go_ret
        exact ⟨by rw [HN.out]; rfl, hg.trans hb5⟩
      · have HN := Lib.hid (HMISS.out i HQ.out (by rw [hp, e]; rfl))
        rw [e] at HCi
        clear HHIT HMISS HNO HQ hp e
        go_wp2_with fail
        refine HCi.out.mono ?_
        rintro e w5 ⟨rfl, hb5⟩
        go_wp2_with fail
        go_roundw
        case rel => exact ⟨i + 1, by omega, by go_num, HN, hg.trans hb5⟩
        case measure => simp [intOf]; omega
    · obtain rfl : n = i := by omega
      have HN := Lib.hid (HNO.out HQ.out)
      go_wp2_with fail
      go_ret
      exact ⟨by rw [HN.out]; rfl, hg⟩
/-- Cells of one block are written. -/
theorem grx_setCells (b : Nat) : ∀ (vs : List Value) (o : Nat) (w : World), GrX b w (w.setCells b o vs)
  | [], _, w => GrX.refl b w
  | v :: r, o, w => (GrX.setCell (p := ⟨b, o, none⟩) (GrX.refl b w) rfl v).trans (grx_setCells b r (o + 1) _)
/-- clear(s) of findings. -/
theorem run_clear_fd (w : World) (b o n c : Nat) (hn : 0 < n) (hc : ∀ j, j < n * 2 → (w.cell? ⟨b, o + j, none⟩).isSome = true) (hf : ∀ j, j < n * 2 → w.frozen? ⟨b, o + j, none⟩ = false) :
    ∃ w', (∀ ty, (Builtin.clear_ #[28] ty #[.slice (some ⟨b, o, none⟩) n c]).run Tryd.prog w = .ok (.tuple #[]) w') ∧ GrX b w w' := by
  have hz : ∀ w, (zeroValue 35).run Tryd.prog w = .ok (.agg #[.int .i64 0, .string ⟨#[]⟩]) w := fun w => by kernel_rfl
  have hlen : (Builtin.zeroCells #[Value.int .i64 0, Value.string ⟨#[]⟩] n).toList.length = n * 2 := by simp [Builtin.zeroCells]
  have h1 : ∀ v ∈ (Builtin.zeroCells #[Value.int .i64 0, Value.string ⟨#[]⟩] n).toList, v.oneCell' = true := by
    intro v hv
    simp only [Builtin.zeroCells, Array.toList_map, List.mem_map] at hv
    obtain ⟨i, -, rfl⟩ := hv
    rcases (by omega : i % 2 = 0 ∨ i % 2 = 1) with e | e <;> simp [e] <;> rfl
  have hst := run_storeCells_cells (P := Tryd.prog) b o (Builtin.zeroCells #[Value.int .i64 0, Value.string ⟨#[]⟩] n).toList 0 w (by rw [hlen]; simpa using hc) (by rw [hlen]; simpa using hf) h1
  simp only [Nat.add_zero] at hst
  obtain ⟨q, rfl⟩ : ∃ q, n = q + 1 := ⟨n - 1, by omega⟩
  refine ⟨_, fun ty => ?_, grx_setCells b (Builtin.zeroCells #[Value.int .i64 0, Value.string ⟨#[]⟩] (q + 1)).toList o w⟩
  simp [Builtin.clear_, run_underlying Tryd.underlying28, hz, Value.cells, hst]
set_option maxRecDepth 100000 in
set_option maxHeartbeats 8000000 in
theorem df_any (k : Int) (KB : Nat) (K : Nat → Int) (T : Nat → ByteArray) (A : Option Addr) (n c b : Nat) (w0 w : World) (g0 : Gr w0 w) (hb : w0.heap.size ≤ b) (hkb : KB ≠ b) (hk : w.cell? ⟨KB, 0, none⟩ = some (.int .i64 k)) (hn : n ≤ 1000) (hnc : n ≤ c) (hcb : c ≤ 9223372036854775807) (hA : 0 < n → A = some ⟨b, 0, none⟩) (hc : ∀ i, i < n → Own w b (i * 2) (.int .i64 (K i)) ∧ Own w b (i * 2 + 1) (.string (T i))) :
    Calls Tryd.prog 29 #[.slice A n c, .func (.func 30) #[] #[.pointer (some ⟨KB, 0, none⟩)]] w fun e w' => ∃ (A' : Option Addr) (c' : Nat), e = .returned (.slice A' (Ms.kc K k n) c') ∧ Gr w0 w' := by
  have HI := Lib.hid (idx_find k KB K T A n c b w hk (by omega) hA (fun i hi => ⟨(hc i hi).1.1, (hc i hi).2.1⟩))
  have HCL := Lib.hid (fun a s W (h : W.cell? ⟨KB, 0, none⟩ = some (.int .i64 k)) => fd_clo k KB a s W h)
  have HP := Lib.hid (fun i => show Ms.ok_ K k i = !(K i == k) from rfl)
  have HYES := Lib.hid (fun i h => Ms.kc_yes (K := K) (k := k) (n := i) h); have HNO := Lib.hid (fun i h => Ms.kc_no (K := K) (k := k) (n := i) h)
  have HLE := Lib.hid (fun i => Ms.kc_le K k i)
  have HC := Lib.hid hc
  cases hf : Ba.fst (Ms.ok_ K k) n with
  | none =>
    have e := Ms.kc_all hf
    rw [show Ba.fstI (Ms.ok_ K k) n = -1 from Ba.fstI_none hf] at HI
    rw [e]
    clear HCL HP HYES HNO HLE HC hc hA hk hf e
    go_enter Tryd.func29, Tryd.ntmps29
    go_wp2_with fail
    refine HI.out.mono ?_
    rintro e w1 ⟨rfl, hb1⟩
    clear HI
    go_wp2_with fail
    go_ret
    exact ⟨A, c, rfl, g0.trans hb1⟩
  | some i0 =>
    have hi0 := (Ba.fst_some hf).1
    have e := Ms.kc_first hf
    rw [show Ba.fstI (Ms.ok_ K k) n = (i0 : Int) from by unfold Ba.fstI; rw [hf]] at HI
    obtain rfl := hA (by omega)
    have HK0 := Lib.hid e
    clear hf e hc hA
    generalize Ms.ok_ K k = P at *
    generalize Ms.kc K k = Q at *
    go_enter Tryd.func29, Tryd.ntmps29
    go_wp2_with fail
    -- @a
    refine HI.out.mono ?_
    rintro e w1 ⟨rfl, hb1⟩
    clear HI
    have g1 := g0.trans hb1
    have hk1 := Gr.at hb1 hk
    have HR1 := Lib.hid (fun i hi => And.intro ((HC.out i hi).1.gr hb1) ((HC.out i hi).2.gr hb1))
    have i00 : (0 : Int) ≤ (i0 : Int) := by omega
    have i01 : ¬ (i0 : Int) = -1 := by omega
    have i02 : ((i0 : Int) == -1) = false := beq_eq_false_iff_ne.2 i01
    clear HC hk hb1
    go_wp2_with fail
    -- @b
    go_loopw [5, 6] (fun x y wr => ∃ i j : Nat, i < j ∧ j ≤ n ∧ i = Q j ∧ x = .int .i64 (i : Int) ∧ y = .int .i64 (j : Int) ∧ Hid (∀ t, t < n → (∃ u, Own wr b (t * 2) u) ∧ ∃ u, Own wr b (t * 2 + 1) u) ∧ Hid (∀ t, j ≤ t → t < n → Own wr b (t * 2) (.int .i64 (K t)) ∧ Own wr b (t * 2 + 1) (.string (T t))) ∧ GrX b w1 wr) (fun _ y _ => n - (intOf y).toNat)
    case atStart => exact ⟨i0, i0 + 1, by omega, by omega, HK0.out.symm, rfl, by go_num, Lib.hid (fun t ht => ⟨⟨_, (HR1.out t ht).1⟩, ⟨_, (HR1.out t ht).2⟩⟩), Lib.hid (fun t _ ht => HR1.out t ht), GrX.refl _ _⟩
    case round =>
      clear HR1 HK0 i00 i01 i02 hi0
      obtain ⟨i, j, hij, hj, hiq, rfl, rfl, HS, HR, hg⟩ := hrel
      rename World => W2
      replace hk1 := GrX.at hg hkb hk1
      have ib0 : (0 : Int) ≤ (i : Int) := by omega
      have ib1 : (i : Int) < (n : Int) := by omega
      have gw2 := GrX.gr g1 hb hg
      by_cases hlt : j < n
      · have jb0 : (0 : Int) ≤ (j : Int) := by omega
        have jb1 : (j : Int) < (n : Int) := by omega
        obtain ⟨r0, r1⟩ := HR.out j (Nat.le_refl _) hlt
        have a0 := r0.1; have a1 := r1.1
        have bl := World.block_lt_of_cell? _ _ a0
        have kl := World.block_lt_of_cell? _ _ hk1
        simp only at bl kl
        obtain ⟨⟨u0, s0⟩, ⟨u1, s1⟩⟩ := HS.out i (by omega)
        have hp := HP.out j
        obtain ⟨x, hx⟩ : ∃ x, K j = x := ⟨_, rfl⟩
        obtain ⟨s, hs⟩ : ∃ s, T j = s := ⟨_, rfl⟩
        rw [hx] at a0 hp
        rw [hs] at a1
        have HCj := Lib.hid (fun W h => HCL.out x s W h)
        have HY := Lib.hid (HYES.out j); have HN := Lib.hid (HNO.out j)
        have HIQ := Lib.hid hiq
        clear r0 r1 hx hs HCL HP HYES HNO HLE hiq
        -- @c
        go_upto_region 8 with fail
        -- @d
        obtain ⟨W3, hW3⟩ : ∃ W, W2.alloc (Obj.cells #[.int .i64 x, .string s] 35) = W := ⟨_, rfl⟩
        have g3 : Gr W2 W3 := hW3 ▸ Gr.alloc (Gr.refl W2) _
        have v0 : W3.cell? ⟨W2.heap.size, 0, none⟩ = some (.int .i64 x) := by rw [← hW3]; simp [go_sem]
        have v1 : W3.cell? ⟨W2.heap.size, 1, none⟩ = some (.string s) := by rw [← hW3]; simp [go_sem]
        obtain ⟨VB, hVB⟩ : ∃ B, W2.heap.size = B := ⟨_, rfl⟩
        try rw [hW3]
        rw [hVB] at v0 v1 bl ⊢
        have hk3 := Gr.at g3 hk1
        clear hW3 hVB a0 a1 hk1
        -- @e
        go_wp2_with fail
        -- @f
        refine (HCj.out W3 hk3).mono ?_
        rintro e w4 ⟨rfl, hb4⟩
        have g4 := g3.trans hb4
        have hg4 := hg.grown g4
        have HS4 := Lib.hid (fun t ht => And.intro (show ∃ u, Own w4 b (t * 2) u from let ⟨u, h⟩ := (HS.out t ht).1; ⟨u, h.gr g4⟩) (show ∃ u, Own w4 b (t * 2 + 1) u from let ⟨u, h⟩ := (HS.out t ht).2; ⟨u, h.gr g4⟩))
        have HR4 := Lib.hid (fun t h1 h2 => And.intro ((HR.out t h1 h2).1.gr g4) ((HR.out t h1 h2).2.gr g4))
        replace s0 := s0.gr g4; replace s1 := s1.gr g4
        replace v0 := Gr.at hb4 v0; replace v1 := Gr.at hb4 v1
        clear HCj hk3 g3 g4 hb4 HS HR hg
        have q0 := s0.1; have q1 := s1.1; have p0 := s0.2; have p1 := s1.2
        cases e : (x == k)
        · have hq := HN.out (by rw [hp, e]; rfl)
          have HQ := Lib.hid (HIQ.out.trans hq.symm)
          clear HY HN HIQ hp e hq s0 s1 q0 q1 p0 p1
          go_wp2_with fail
          -- @g
          go_roundw
          case rel => exact ⟨i, j + 1, by omega, by omega, HQ.out, rfl, by go_num, HS4, Lib.hid (fun t h1 h2 => HR4.out t (by omega) h2), hg4⟩
          case measure => simp [intOf]; omega
        · have hq := HY.out (by rw [hp, e]; rfl)
          have HQ := Lib.hid (show i + 1 = Q (j + 1) from by rw [hq, ← HIQ.out])
          clear HY HN HIQ hp e hq
          obtain ⟨W5, hW5⟩ : ∃ W, (w4.setCell ⟨b, i * 2, none⟩ (.int .i64 x)).setCell ⟨b, i * 2 + 1, none⟩ (.string s) = W := ⟨_, rfl⟩
          have gx5 : GrX b w4 W5 := hW5 ▸ GrX.setCell (p := ⟨b, i * 2 + 1, none⟩) (GrX.setCell (p := ⟨b, i * 2, none⟩) (GrX.refl b w4) rfl _) rfl _
          have HOT : ∀ o u, o ≠ i * 2 → o ≠ i * 2 + 1 → Own w4 b o u → Own W5 b o u := fun o u h1 h2 h => hW5 ▸ Own.other (Own.other h (Or.inr h1)) (Or.inr h2)
          have HS5 := Lib.hid (show ∀ t, t < n → (∃ u, Own W5 b (t * 2) u) ∧ ∃ u, Own W5 b (t * 2 + 1) u from fun t ht => by
            obtain ⟨⟨y0, h0⟩, ⟨y1, h1⟩⟩ := HS4.out t ht
            by_cases q : t = i
            · subst q
              exact ⟨⟨_, hW5 ▸ Own.other (Own.set s0) (Or.inr (by omega))⟩, ⟨_, hW5 ▸ Own.set (Own.other s1 (Or.inr (by omega)))⟩⟩
            · exact ⟨⟨_, HOT _ _ (by omega) (by omega) h0⟩, ⟨_, HOT _ _ (by omega) (by omega) h1⟩⟩)
          have HR5 := Lib.hid (show ∀ t, j + 1 ≤ t → t < n → Own W5 b (t * 2) (.int .i64 (K t)) ∧ Own W5 b (t * 2 + 1) (.string (T t)) from fun t h1 h2 => ⟨HOT _ _ (by omega) (by omega) (HR4.out t (by omega) h2).1, HOT _ _ (by omega) (by omega) (HR4.out t (by omega) h2).2⟩)
          have hg5 := hg4.trans gx5
          clear HOT HS4 HR4 hg4 gx5 s0 s1
          -- @h
          go_wp2_with fail
          try rw [hW5]
          -- @i
          go_roundw
          case rel => exact ⟨i + 1, j + 1, by omega, by omega, HQ.out, by go_num, by go_num, HS5, HR5, hg5⟩
          case measure => simp [intOf]; omega
      · obtain rfl : n = j := by omega
        obtain ⟨W9, hcl, hgx⟩ := run_clear_fd W2 b (i * 2) (n - i) (c - i) (by omega) (fun t ht => by
          obtain ⟨⟨y0, h0⟩, ⟨y1, h1⟩⟩ := HS.out (i + t / 2) (by omega)
          rcases (by omega : t % 2 = 0 ∨ t % 2 = 1) with q | q
          · rw [show i * 2 + t = (i + t / 2) * 2 by omega, h0.1]; rfl
          · rw [show i * 2 + t = (i + t / 2) * 2 + 1 by omega, h1.1]; rfl) (fun t ht => by
          obtain ⟨⟨y0, h0⟩, ⟨y1, h1⟩⟩ := HS.out (i + t / 2) (by omega)
          rcases (by omega : t % 2 = 0 ∨ t % 2 = 1) with q | q
          · rw [show i * 2 + t = (i + t / 2) * 2 by omega]; exact h0.2
          · rw [show i * 2 + t = (i + t / 2) * 2 + 1 by omega]; exact h1.2)
        have hci : ¬ c = i := by omega
        have gw9 := GrX.gr gw2 hb hgx
        have HQN := Lib.hid hiq
        clear HS HR HCL HP HYES HNO HLE hiq hgx hk1 hg gw2
        have nb0 : (n : Int) ≤ (c : Int) := by omega
        have nb1 : (c : Int) ≤ 9223372036854775807 := by omega
        have ib2 : (i : Int) ≤ (n : Int) := by omega
        -- @j
        go_wp2_with fail
        -- @k
        go_ret
        exact ⟨_, _, by rw [← HQN.out]; rfl, gw9⟩
theorem own_fnd2 {w : World} {base E : Nat} {v : Value} {L : List (Nat × Nat)} (h : w.ownsRow base E 2 v L.length (Ms.ff L)) (hb0 : base ≤ w.heap.size) : ∃ (A : Option Addr) (c b : Nat), v = .slice A L.length c ∧ (0 < L.length → A = some ⟨b, 0, none⟩) ∧ L.length ≤ c ∧ c ≤ 9223372036854775807 ∧ base ≤ b ∧ ∀ i, i < L.length → Own w b (i * 2) (.int .i64 (Ms.fK L i)) ∧ Own w b (i * 2 + 1) (.string (Ms.fS L i)) := by
  have h' := h
  obtain ⟨hl, ⟨rfl, he⟩ | ⟨g, cap, cur, rfl, hb, hc, hn, hm, h5, h6⟩⟩ := h
  · have e0 : L.length = 0 := he
    rw [e0]
    exact ⟨none, 0, w.heap.size, rfl, fun h => absurd h (by omega), Nat.le_refl _, by omega, hb0, fun i hi => absurd hi (by omega)⟩
  · refine ⟨some ⟨g, 0, none⟩, cap, g, rfl, fun _ => rfl, hn, by unfold maxLen at hm; exact hm, hb, fun i hi => ?_⟩
    have e : L[i]? = some (L.getD i (0, 0)) := by rw [List.getElem?_eq_getElem hi, List.getD, List.getElem?_eq_getElem hi]; rfl
    obtain ⟨h0, h1⟩ := Ms.ff_get e
    have hf : ∀ o, w.frozen? ⟨g, o, none⟩ = false := fun o => by simp only [World.frozen?, hc]; simp
    exact ⟨⟨(h'.cellAt (i * 2) (by omega)).trans h0, hf _⟩, ⟨(h'.cellAt (i * 2 + 1) (by omega)).trans h1, hf _⟩⟩
set_option maxRecDepth 100000 in
set_option maxHeartbeats 8000000 in
theorem cnt_any (m : Ms.Mesh) (k : Nat) (w : World) (h : m.At w) (hs : m.S.n ≤ 61 ∧ m.F.n ≤ 61) (hk : k < 7) : Calls Tryd.prog 28 #[m.val, .int .i64 (k : Int)] w fun e w' => e = .returned (.int .i64 (Ms.cnt m k : Int)) ∧ Gr w w' := by
  have HC := Lib.hid (fun W (hW : Gr w W) => ms_check m W ⟨h.s.gr hW, h.f.gr hW⟩ hs.1 hs.2)
  have hl := Ms.fnd_le m hs.1 hs.2 7
  have HK := Lib.hid (show Ms.cnt m k = Ms.kc (Ms.fK (Ms.fnd m 7)) (k : Int) (Ms.fnd m 7).length from by rw [Ms.kc_fnd, Ms.cnt_fnd, if_pos hk])
  unfold RetChk at HC
  clear h hs hk
  generalize Ms.cnt m k = R at *
  unfold Ms.Mesh.val at *
  generalize m.S.A = sA at *; generalize m.S.n = sn at *; generalize m.S.c = sc at *; generalize m.F.A = fA at *; generalize m.F.n = fn at *; generalize m.F.c = fc at *
  obtain ⟨L, hL⟩ : ∃ L, Ms.fnd m 7 = L := ⟨_, rfl⟩
  simp only [hL] at HC HK hl
  clear hL
  go_enter Tryd.func28, Tryd.ntmps28
  go_wp2_with fail
  -- @a
  refine (HC.out _ (by exact gr_auto)).mono ?_
  rintro e w1 ⟨v, rfl, hv, hb1⟩
  have k1 := Gr.at hb1 (b := w.heap.size + 1) (o := 0) (v := .int .i64 (k : Int)) (by simp [go_sem])
  have g1 : Gr w w1 := Gr.trans (by exact gr_auto) hb1
  have z1 := Gr.size hb1
  simp at z1
  obtain ⟨A1, c1, b1, rfl, hA1, hn1, hc1, hbb, hcel1⟩ := own_fnd2 hv (Gr.size hb1)
  simp at hbb
  have HD := Lib.hid (df_any (k : Int) (w.heap.size + 1) (Ms.fK L) (Ms.fS L) A1 L.length c1 b1 w w1 g1 (by omega) (by omega) k1 (by omega) hn1 hc1 hA1 hcel1)
  rw [← HK.out] at HD
  clear HC HK hv hb1 hcel1 hA1
  -- @b
  go_wp2_with fail
  -- @c
  refine HD.out.mono ?_
  rintro e w2 ⟨A2, c2, rfl, g2⟩
  clear HD
  go_wp2_with fail
  -- @d
  go_ret
  exact ⟨rfl, g2⟩
end Go.Proofs.YtajhhplgcegodaaDoor
