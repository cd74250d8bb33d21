/-
  Cut: the program's, and the reference's. (Printed by mkcut.py.)
-/
import Derived.Test.YthkmgnaeponfcaaBaCat
import Derived.Test.YthkmgnaeponfcaaBaSets
import Derived.Test.YthkmgnaeponfcaaBaSums
set_option linter.unusedVariables false
set_option linter.unusedSimpArgs false
namespace Go.Proofs.Ythkmgnaeponfcaa
open Go.RowKit
attribute [local go_sem ↓] Go.wp_at_zero Go.wp_at_succ
namespace Ba
/-- A link goes from one of the first nodes to one of the second; the names of these links; the error. -/
def cutP (E : Nat → Link) (F T : SlS) (k : Nat) : Bool := hasS F (E k).fr && hasS T (E k).tt
def cutL (p : Nat → Bool) (E : Nat → Link) : Nat → List ByteArray
  | 0 => []
  | k + 1 => if p k = true then cutL p E k ++ [(E k).nm] else cutL p E k
def cutE (N : SlNode) (L : SlLink) (F T : SlS) : Int := if netB N L = false then 1 else if (knoB N F && knoB N T) = true then 0 else 9
def cutR (N : SlNode) (L : SlLink) (F T : SlS) : List ByteArray := if cutE N L F T = 0 then cutL (cutP L.D F T) L.D L.n else []
theorem cutL_len (p : Nat → Bool) (E : Nat → Link) : ∀ n, (cutL p E n).length ≤ n
  | 0 => by simp [cutL]
  | n + 1 => by
    have := cutL_len p E n
    rw [cutL]; split
    · rw [List.length_append]; simp; omega
    · omega
theorem cutL_mem {p : Nat → Bool} {E : Nat → Link} {x : ByteArray} : ∀ {n : Nat}, x ∈ cutL p E n → ∃ k, k < n ∧ x = (E k).nm
  | 0, h => by simp [cutL] at h
  | n + 1, h => by
    rw [cutL] at h
    split at h
    · rcases List.mem_append.1 h with h | h
      · obtain ⟨k, hk, e⟩ := cutL_mem h; exact ⟨k, by omega, e⟩
      · exact ⟨n, by omega, by simpa using h⟩
    · obtain ⟨k, hk, e⟩ := cutL_mem h; exact ⟨k, by omega, e⟩
theorem cutL_congr {p q : Nat → Bool} {E : Nat → Link} : ∀ {n : Nat}, (∀ k, k < n → p k = q k) → cutL p E n = cutL q E n
  | 0, _ => rfl
  | n + 1, h => by rw [cutL, cutL, cutL_congr fun k hk => h k (by omega), h n (by omega)]
/-- A node's number is among the names' numbers just if its name is. -/
theorem set_has {N : SlNode} {T : SlS} {t : ByteArray} {j : Nat} (h : nix N t = (j : Int)) : setX (ixs N T) T.n j = hasS T t := by
  rw [Bool.eq_iff_iff, setX_iff, hasS_iff]
  constructor
  · rintro ⟨k, hk, e⟩
    refine ⟨k, hk, ?_⟩
    unfold ixs at e
    rcases nix_cases N (T.X k) with q | ⟨i, hi, q1, q2, -⟩
    · omega
    rcases nix_cases N t with r | ⟨i2, hi2, r1, r2, -⟩
    · omega
    obtain rfl : i = i2 := by omega
    rw [← eqS_true.1 q2, ← eqS_true.1 r2]
  · rintro ⟨k, hk, e⟩
    exact ⟨k, hk, by unfold ixs; rw [e, h]⟩
theorem knoB_iff (N : SlNode) (T : SlS) : knoB N T = true ↔ ∀ k, k < T.n → 0 ≤ nix N (T.X k) := by
  unfold knoB
  rw [allB_iff]
  exact ⟨fun h k hk => of_decide_eq_true (h k hk), fun h k hk => decide_eq_true (h k hk)⟩
theorem cat_get {F T s : SlS} (hs : s.n = (lstS F.n F.X ++ lstS T.n T.X).length) (hx : ∀ i, i < s.n → (lstS F.n F.X ++ lstS T.n T.X)[i]? = some (s.X i)) : (∀ k, k < F.n → k < s.n ∧ s.X k = F.X k) ∧ (∀ k, k < T.n → F.n + k < s.n ∧ s.X (F.n + k) = T.X k) ∧ s.n = F.n + T.n := by
  rw [List.length_append, lstS_len, lstS_len] at hs
  refine ⟨fun k hk => ⟨by omega, ?_⟩, fun k hk => ⟨by omega, ?_⟩, hs⟩
  · have := hx k (by omega)
    rw [List.getElem?_append_left (by rw [lstS_len]; exact hk), lstS_get hk] at this
    exact (Option.some.inj this).symm
  · have := hx (F.n + k) (by omega)
    rw [List.getElem?_append_right (by rw [lstS_len]; omega), lstS_len, Nat.add_sub_cancel_left, lstS_get hk] at this
    exact (Option.some.inj this).symm
theorem cat_all {N : SlNode} {F T s : SlS} (hs : s.n = (lstS F.n F.X ++ lstS T.n T.X).length) (hx : ∀ i, i < s.n → (lstS F.n F.X ++ lstS T.n T.X)[i]? = some (s.X i)) (h : ∀ i, i < s.n → 0 ≤ nix N (s.X i)) : (knoB N F && knoB N T) = true := by
  obtain ⟨a, b, -⟩ := cat_get hs hx
  rw [Bool.and_eq_true, knoB_iff, knoB_iff]
  exact ⟨fun k hk => (a k hk).2 ▸ h k (a k hk).1, fun k hk => (b k hk).2 ▸ h _ (b k hk).1⟩
theorem cat_no {N : SlNode} {F T s : SlS} (hs : s.n = (lstS F.n F.X ++ lstS T.n T.X).length) (hx : ∀ i, i < s.n → (lstS F.n F.X ++ lstS T.n T.X)[i]? = some (s.X i)) {i : Nat} (hi : i < s.n) (h : nix N (s.X i) < 0) : (knoB N F && knoB N T) = false := by
  obtain ⟨a, b, c⟩ := cat_get hs hx
  cases e : (knoB N F && knoB N T)
  · rfl
  · rw [Bool.and_eq_true, knoB_iff, knoB_iff] at e
    by_cases hf : i < F.n
    · rw [(a i hf).2] at h; have := e.1 i hf; omega
    · have := b (i - F.n) (by omega)
      rw [show F.n + (i - F.n) = i by omega] at this
      rw [this.2] at h; have := e.2 (i - F.n) (by omega); omega
end Ba
/-- What comes back is a slice of these strings, and an error. -/
def RetLE (l : List ByteArray) (ec : Int) (w : World) (e : Ending) (w' : World) : Prop := ∃ s : Ba.SlS, e = .returned (.tuple #[.slice s.A s.n s.c, .int .i64 ec]) ∧ s.At w' ∧ s.n = l.length ∧ (∀ i, i < s.n → l[i]? = some (s.X i)) ∧ Gr w w'
theorem retLE_nil {ec : Int} {w w' : World} (hg : Gr w w') : RetLE [] ec w (.returned (.tuple #[.slice none 0 0, .int .i64 ec])) w' :=
  ⟨⟨none, 0, 0, 0, 0, fun _ => ⟨#[]⟩⟩, rfl, ⟨fun h => absurd h (by simp), by simp, by simp, fun i hi => absurd hi (by simp)⟩, rfl, fun i hi => absurd hi (by simp), hg⟩
theorem retLE_own {n base E : Nat} {w w' : World} {v : Value} {l : List ByteArray} {ec : Int} (h : w'.ownsRow base E 1 v n (l.map Value.string)) (hl : ∀ x ∈ l, x.size ≤ 9223372036854775807) (hg : Gr w w') : RetLE l ec w (.returned (.tuple #[v, .int .i64 ec])) w' := by
  obtain ⟨s, rfl, h1, h2, h3⟩ := sls_own h hl
  exact ⟨s, rfl, h1, h2, h3, hg⟩

set_option maxRecDepth 100000 in
set_option maxHeartbeats 4000000 in
theorem cut_v (A A2 : Option Addr) (n c n2 c2 : Nat) (F T : Ba.SlS) (w : World) (HV : Hid (∀ W, Gr w W → Calls Try.prog 57 #[.agg #[.slice A n c, .slice A2 n2 c2]] W fun e w' => e = .returned (.bool false) ∧ Gr W w')) : Calls Try.prog 27 #[.agg #[.slice A n c, .slice A2 n2 c2], .slice F.A F.n F.c, .slice T.A T.n T.c] w (RetLE [] 1 w) := by
  go_enter Try.func27, Try.ntmps27
  go_wp2_with fail
  (first | refine name_world ?_ | refine (show (∀ W, W = _ → Calls _ _ _ W _) → Calls _ _ _ _ _ from fun h => h _ rfl) ?_); intro W1 hW1
  have g1 : Gr w W1 := by rw [hW1]; exact gr_auto
  have k1_0 : W1.cell? ⟨w.heap.size, 0, none⟩ = some (.slice A n c) := by rw [hW1]; first | (simp [go_sem, *]; done) | (refine Gr.at ?_ (by assumption); exact gr_auto)
  have b1_0 : w.heap.size < W1.heap.size := World.block_lt_of_cell? _ _ k1_0
  have k1_1 : W1.cell? ⟨w.heap.size, 1, none⟩ = some (.slice A2 n2 c2) := by rw [hW1]; first | (simp [go_sem, *]; done) | (refine Gr.at ?_ (by assumption); exact gr_auto)
  clear hW1
  refine (HV.out _ g1).mono ?_
  rintro e w2 ⟨rfl, hb2⟩
  have g2 := g1.trans hb2
  have k1_0 := Gr.at (w1 := w2) gr_auto k1_0; have k1_1 := Gr.at (w1 := w2) gr_auto k1_1
  go_wp2_with fail
  go_ret2
  exact retLE_nil gr_auto

set_option maxRecDepth 100000 in
set_option maxHeartbeats 4000000 in
theorem cut_l (A A2 : Option Addr) (n c n2 c2 : Nat) (F T : Ba.SlS) (w : World) (b2 o2 : Nat) (E : Nat → Ba.Link) (KA : Hid (0 < n2 → A2 = some ⟨b2, o2, none⟩)) (KX : Hid (∀ k, k < n2 → (E k).Cells w b2 (o2 + k * 11))) (SZ : Hid (∀ k, k < n2 → (E k).nm.size ≤ 9223372036854775807)) (hl : n2 ≤ 20) (ix : ByteArray → Int) (C R : List ByteArray) (ec : Int) (hC : C.length ≤ 10000) (HV : Hid (∀ W, Gr w W → Calls Try.prog 57 #[.agg #[.slice A n c, .slice A2 n2 c2]] W fun e w' => e = .returned (.bool true) ∧ Gr W w')) (HCAT : Hid (∀ B W, Gr w W → W.cell? ⟨B, 0, none⟩ = some (.slice F.A F.n F.c) → W.cell? ⟨B, 1, none⟩ = some (.slice T.A T.n T.c) → Calls Try.prog 19 #[.slice (some ⟨B, 0, none⟩) 2 2] W (RetL C W)))
    (HNn : Hid (∀ x W, Gr w W → ix x < 0 → Calls Try.prog 41 #[.agg #[.slice A n c, .slice A2 n2 c2], .string x] W fun e w' => e = .returned (.tuple #[.int .i64 0, .int .i64 9]) ∧ Gr W w')) (HNp : Hid (∀ x W, Gr w W → 0 ≤ ix x → Calls Try.prog 41 #[.agg #[.slice A n c, .slice A2 n2 c2], .string x] W fun e w' => e = .returned (.tuple #[.int .i64 (ix x), .int .i64 0]) ∧ Gr W w'))
    (HNO : Hid (∀ s : Ba.SlS, s.n = C.length → (∀ i, i < s.n → C[i]? = some (s.X i)) → ∀ i, i < s.n → ix (s.X i) < 0 → ec = 9 ∧ R = [])) (HYES : Hid (∀ s : Ba.SlS, s.n = C.length → (∀ i, i < s.n → C[i]? = some (s.X i)) → (∀ i, i < s.n → 0 ≤ ix (s.X i)) → ec = 0 ∧ R = Ba.cutL (Ba.cutP E F T) E n2))
    (HCF : Hid (∀ x W, Gr w W → Calls Try.prog 58 #[.slice F.A F.n F.c, .string x] W fun e w' => e = .returned (.bool (Ba.hasS F x)) ∧ Gr W w')) (HCT : Hid (∀ x W, Gr w W → Calls Try.prog 58 #[.slice T.A T.n T.c, .string x] W fun e w' => e = .returned (.bool (Ba.hasS T x)) ∧ Gr W w')) : Calls Try.prog 27 #[.agg #[.slice A n c, .slice A2 n2 c2], .slice F.A F.n F.c, .slice T.A T.n T.c] w (RetLE R ec w) := by
  obtain ⟨i0, hi0, hz0, hz1, hz2⟩ := info_parts info_str
  have HI := Lib.hid hi0; have HZ0 := Lib.hid hz0; have HZ1 := Lib.hid hz1; have HZ2 := Lib.hid hz2
  clear hi0 hz0 hz1 hz2
  go_enter Try.func27, Try.ntmps27
  go_wp2_with fail
  (first | refine name_world ?_ | refine (show (∀ W, W = _ → Calls _ _ _ W _) → Calls _ _ _ _ _ from fun h => h _ rfl) ?_); intro W1 hW1
  have g1 : Gr w W1 := by rw [hW1]; exact gr_auto
  have k1_0 : W1.cell? ⟨w.heap.size, 0, none⟩ = some (.slice A n c) := by rw [hW1]; first | (simp [go_sem, *]; done) | (refine Gr.at ?_ (by assumption); exact gr_auto)
  have b1_0 : w.heap.size < W1.heap.size := World.block_lt_of_cell? _ _ k1_0
  have k1_1 : W1.cell? ⟨w.heap.size, 1, none⟩ = some (.slice A2 n2 c2) := by rw [hW1]; first | (simp [go_sem, *]; done) | (refine Gr.at ?_ (by assumption); exact gr_auto)
  clear hW1
  refine (HV.out _ g1).mono ?_
  rintro e w2 ⟨rfl, hb2⟩
  have g2 := g1.trans hb2
  have k1_0 := Gr.at (w1 := w2) gr_auto k1_0; have k1_1 := Gr.at (w1 := w2) gr_auto k1_1
  go_wp2_with fail
  (first | refine name_world ?_ | refine (show (∀ W, W = _ → Calls _ _ _ W _) → Calls _ _ _ _ _ from fun h => h _ rfl) ?_); intro W3 hW3
  have g3 : Gr w W3 := by rw [hW3]; exact gr_auto
  have gb3_w2 : Gr w2 W3 := by (try clear g3); rw [hW3]; exact gr_auto
  have k3_0 : W3.cell? ⟨w.heap.size, 0, none⟩ = some (.slice A n c) := by rw [hW3]; first | (simp [go_sem, *]; done) | (refine Gr.at ?_ (by assumption); exact gr_auto)
  have b3_0 : w.heap.size < W3.heap.size := World.block_lt_of_cell? _ _ k3_0
  have k3_1 : W3.cell? ⟨w.heap.size, 1, none⟩ = some (.slice A2 n2 c2) := by rw [hW3]; first | (simp [go_sem, *]; done) | (refine Gr.at ?_ (by assumption); exact gr_auto)
  have k3_2 : W3.cell? ⟨w2.heap.size, 0, none⟩ = some (.slice F.A F.n F.c) := by rw [hW3]; first | (simp [go_sem, *]; done) | (refine Gr.at ?_ (by assumption); exact gr_auto)
  have b3_2 : w2.heap.size < W3.heap.size := World.block_lt_of_cell? _ _ k3_2
  have k3_3 : W3.cell? ⟨w2.heap.size, 1, none⟩ = some (.slice T.A T.n T.c) := by rw [hW3]; first | (simp [go_sem, *]; done) | (refine Gr.at ?_ (by assumption); exact gr_auto)
  clear hW3
  refine (HCAT.out _ _ g3 k3_2 k3_3).mono ?_
  rintro e w4 ⟨s, rfl, hs1, hs2, hs3, hb4⟩
  have g4 := g3.trans hb4
  have k3_0 := Gr.at (w1 := w4) gr_auto k3_0; have k3_1 := Gr.at (w1 := w4) gr_auto k3_1
  have HS1 := Lib.hid hs1.hA; have HS2 := Lib.hid hs1.hX; have HC := Lib.hid (And.intro hs2 hs3)
  have hsn : s.n ≤ 10000 := by omega
  obtain ⟨sA, sn, sc, sb, so, sX⟩ := s
  simp only at HS1 HS2 HC hsn ⊢
  clear hs1 hs2 hs3 k1_0 k1_1 k3_2 k3_3 HV HCAT
  go_wp2_with fail
  go_loopw [23] (fun q wr => ∃ i : Nat, i ≤ sn ∧ q = .int .i64 (i : Int) ∧ Hid (∀ j, j < i → 0 ≤ ix (sX j)) ∧ Gr w4 wr) (fun q _ => sn - (intOf q).toNat)
  case atStart => exact ⟨0, Nat.zero_le _, rfl, Lib.hid (fun j hj => absurd hj (by omega)), Gr.refl _⟩
  case round =>
    obtain ⟨i, hi, rfl, HK, hg⟩ := hrel
    have gr : Gr w wr := g4.trans hg
    have k0 := Gr.at hg k3_0; have k1 := Gr.at hg k3_1
    clear k3_0 k3_1
    by_cases hlt : i < sn
    · obtain rfl := HS1.out (by omega)
      have a0 := Gr.at hg (HS2.out i hlt).1
      have ib0 : (0 : Int) ≤ (i : Int) := by omega
      have ib1 : (i : Int) < (sn : Int) := by omega
      by_cases hx : ix (sX i) < 0
      · have HNi := Lib.hid (fun W hW => HNn.out (sX i) W hW hx)
        have HZ := Lib.hid (HNO.out ⟨some ⟨sb, so, none⟩, sn, sc, sb, so, sX⟩ HC.out.1 HC.out.2 i hlt hx)
        clear HNn HNp HCF HCT HK HS1 HS2 HC HNO HYES KA KX SZ HI HZ0 HZ1 HZ2 hx
        go_wp2_with fail
        refine (HNi.out _ (by first | exact gr | exact gr_auto)).mono ?_
        rintro e w5 ⟨rfl, hb5⟩
        have g5 := gr.trans hb5
        go_wp2_with fail
        go_ret2
        rw [HZ.out.1, HZ.out.2]
        exact retLE_nil g5
      · have HNi := Lib.hid (fun W hW => HNp.out (sX i) W hW (by omega))
        have HK2 := Lib.hid (fun (j : Nat) (hj : j < i + 1) => show 0 ≤ ix (sX j) from by
          rcases (by omega : j < i ∨ j = i) with q | rfl
          · exact HK.out j q
          · omega)
        clear HNn HNp HCF HCT HK HS1 HS2 HC HNO HYES KA KX SZ HI HZ0 HZ1 HZ2 hx
        generalize ix (sX i) = y at *
        go_wp2_with fail
        refine (HNi.out _ (by first | exact gr | exact gr_auto)).mono ?_
        rintro e w5 ⟨rfl, hb5⟩
        go_wp2_with fail
        go_roundw
        case rel => exact ⟨i + 1, by omega, by go_num, HK2, gr_auto⟩
        case measure => simp [intOf]; omega
    · obtain rfl : i = sn := by omega
      have HZ := Lib.hid (HYES.out ⟨sA, i, sc, sb, so, sX⟩ HC.out.1 HC.out.2 HK.out)
      clear HNn HNp HK HS1 HS2 HC HNO HYES
      go_wp2_with fail
      (first | refine name_world ?_ | refine (show (∀ W, W = _ → Calls _ _ _ W _) → Calls _ _ _ _ _ from fun h => h _ rfl) ?_); intro W7 hW7
      have g7 : Gr w W7 := by rw [hW7]; exact gr_auto
      have gb7_wr : Gr wr W7 := by (try clear g7); rw [hW7]; exact gr_auto
      have k7_0 : W7.cell? ⟨w.heap.size, 0, none⟩ = some (.slice A n c) := by rw [hW7]; first | (simp [go_sem, *]; done) | (refine Gr.at ?_ (by assumption); exact gr_auto)
      have b7_0 : w.heap.size < W7.heap.size := World.block_lt_of_cell? _ _ k7_0
      have k7_1 : W7.cell? ⟨w.heap.size, 1, none⟩ = some (.slice A2 n2 c2) := by rw [hW7]; first | (simp [go_sem, *]; done) | (refine Gr.at ?_ (by assumption); exact gr_auto)
      clear hW7
      clear k0 k1
      go_loopw [12, 40] (fun v q wz => ∃ k : Nat, k ≤ n2 ∧ q = .int .i64 (k : Int) ∧ Hid (wz.ownsRow W7.heap.size 9 1 v (Ba.cutL (Ba.cutP E F T) E k).length ((Ba.cutL (Ba.cutP E F T) E k).map Value.string)) ∧ Gr W7 wz) (fun _ q _ => n2 - (intOf q).toNat)
      case atStart => exact ⟨0, Nat.zero_le _, rfl, Lib.hid ⟨rfl, Or.inl ⟨rfl, rfl⟩⟩, Gr.refl _⟩
      case round =>
        rename_i wx
        clear hg gr
        obtain ⟨k, hk, rfl, HO, hg⟩ := hrel
        have gr : Gr w wr := g7.trans hg
        have k0 := Gr.at hg k7_0; have k1 := Gr.at hg k7_1
        clear k7_0 k7_1
        by_cases hlt2 : k < n2
        · obtain rfl := KA.out (by omega)
          obtain ⟨a0, a1, a2, a3, a4, a5, a6, a7, a8, a9, a10⟩ := (KX.out k hlt2).gr gr
          have ib2 : (0 : Int) ≤ (k : Int) := by omega
          have ib3 : (k : Int) < (n2 : Int) := by omega
          have hlen := Ba.cutL_len (Ba.cutP E F T) E k
          have HT := Lib.hid (show Ba.cutL (Ba.cutP E F T) E (k + 1) = if (Ba.hasS F (E k).fr && Ba.hasS T (E k).tt) = true then Ba.cutL (Ba.cutP E F T) E k ++ [(E k).nm] else Ba.cutL (Ba.cutP E F T) E k from rfl)
          have HF1 := Lib.hid (fun W hW => HCF.out (E k).fr W hW); have HT1 := Lib.hid (fun W hW => HCT.out (E k).tt W hW)
          clear KX SZ HCF HCT
          go_wp2_with fail
          (first | refine name_world ?_ | refine (show (∀ W, W = _ → Calls _ _ _ W _) → Calls _ _ _ _ _ from fun h => h _ rfl) ?_); intro W5 hW5
          have g5 : Gr w W5 := by rw [hW5]; exact gr_auto
          have gb5_wr : Gr wr W5 := by (try clear g5); rw [hW5]; exact gr_auto
          have k5_0 : W5.cell? ⟨wr.heap.size, 0, none⟩ = some (.string (E k).nm) := by rw [hW5]; first | (simp [go_sem, *]; done) | (refine Gr.at ?_ (by assumption); exact gr_auto)
          have b5_0 : wr.heap.size < W5.heap.size := World.block_lt_of_cell? _ _ k5_0
          have k5_1 : W5.cell? ⟨wr.heap.size, 2, none⟩ = some (.string (E k).tt) := by rw [hW5]; first | (simp [go_sem, *]; done) | (refine Gr.at ?_ (by assumption); exact gr_auto)
          clear hW5
          clear a0 a1 a2 a3 a4 a5 a6 a7 a8 a9 a10
          refine (HF1.out _ (by first | exact gr | exact gr.trans gb5_wr | exact gr_auto)).mono ?_
          rintro e w6 ⟨rfl, hb6⟩
          have gb6 : Gr W7 w6 := (hg.trans gb5_wr).trans hb6
          have k5_0 := Gr.at (w1 := w6) gr_auto k5_0; have k5_1 := Gr.at (w1 := w6) gr_auto k5_1
          cases t0 : Ba.hasS F (E k).fr
          · rw [t0, Bool.false_and, if_neg (by decide)] at HT
            go_wp2_with fail
            go_roundw
            case rel => exact ⟨k + 1, by omega, by go_num, Lib.hid (by rw [HT.out]; exact ownsRow_gr HO.out ((gb5_wr).trans hb6)), gb6⟩
            case measure => simp [intOf]; omega
          go_wp2_with fail
          refine (HT1.out _ (by first | exact (gr.trans gb5_wr).trans hb6 | exact gr_auto)).mono ?_
          rintro e w8 ⟨rfl, hb8⟩
          have gb8 : Gr W7 w8 := gb6.trans hb8
          have k5_0 := Gr.at (w1 := w8) gr_auto k5_0
          have gx : Gr wr w8 := (gb5_wr.trans hb6).trans hb8
          rw [t0, Bool.true_and] at HT
          cases t1 : Ba.hasS T (E k).tt
          · rw [t1, if_neg (by decide)] at HT
            go_wp2_with fail
            go_roundw
            case rel => exact ⟨k + 1, by omega, by go_num, Lib.hid (by rw [HT.out]; exact ownsRow_gr HO.out gx), gb8⟩
            case measure => simp [intOf]; omega
          · rw [t1, if_pos rfl] at HT
            have gz7 : Gr W7 w8 := gb8
            go_wp2_with (at_builtin; refine wpList_append_own _ rfl _ _ 34 rfl W7.heap.size 9 i0 (.string ⟨#[]⟩) 1 16 Try.underlying34 HI.out HZ0.out HZ1.out HZ2.out rfl (by decide) _ (Ba.cutL (Ba.cutP E F T) E k).length ((Ba.cutL (Ba.cutP E F T) E k).map Value.string) rfl (ownsRow_gr HO.out (by exact gr_auto)) ⟨w8.heap.size, 0, none⟩ 1 1 [.string (E k).nm] rfl rfl ?c1 ?c2 ?c3 ?c4 ?c5 ?_)
            case c1 =>
              intro j u hj
              match j, hj with
              | 0, hj => simp at hj; subst hj; first | (simp [Addr.add, go_sem]; done) | (show World.cell? _ ⟨w8.heap.size, 0, none⟩ = _; rw [World.cell?_alloc_at _ _ _ _ (by simp)]; rfl)
            case c2 => intro u hu; simp at hu; subst hu; rfl
            case c3 => unfold maxLen; omega
            case c4 => omega
            case c5 => have := Gr.size gz7; simp; omega
            intro v' w9 hown' hgrow _
            have hg9 : Gr W7 w9 := by
              refine Gr.own (base := W7.heap.size) ?_ (Nat.le_refl _) (ownsRow_gr HO.out ?_) hgrow
              · exact gr_auto
              · exact gr_auto
            have HO9 := Lib.hid hown'
            clear hown' hgrow
            go_wp2_with fail
            go_roundw
            case rel => exact ⟨k + 1, by omega, by go_num, Lib.hid (by have := HO9.out; rw [HT.out]; simpa using this), hg9⟩
            case measure => simp [intOf]; omega
        · obtain rfl : k = n2 := by omega
          have HLL := Lib.hid (fun x (hx : x ∈ Ba.cutL (Ba.cutP E F T) E k) => show x.size ≤ 9223372036854775807 from by
            obtain ⟨j, hj, rfl⟩ := Ba.cutL_mem hx
            exact SZ.out j hj)
          clear KX SZ HCF HCT HI HZ0 HZ1 HZ2
          go_wp2_with fail
          go_ret2
          rw [HZ.out.1, HZ.out.2]
          exact retLE_own HO.out HLL.out gr

set_option maxRecDepth 100000 in
set_option maxHeartbeats 4000000 in
theorem rcut_v (A A2 : Option Addr) (n c n2 c2 : Nat) (F T : Ba.SlS) (w : World) (HV : Hid (∀ W, Gr w W → Calls Try.prog 53 #[.agg #[.slice A n c, .slice A2 n2 c2]] W fun e w' => e = .returned (.bool false) ∧ Gr W w')) : Calls Try.prog 28 #[.agg #[.slice A n c, .slice A2 n2 c2], .slice F.A F.n F.c, .slice T.A T.n T.c] w (RetLE [] 1 w) := by
  go_enter Try.func28, Try.ntmps28
  go_wp2_with fail
  (first | refine name_world ?_ | refine (show (∀ W, W = _ → Calls _ _ _ W _) → Calls _ _ _ _ _ from fun h => h _ rfl) ?_); intro W1 hW1
  have g1 : Gr w W1 := by rw [hW1]; exact gr_auto
  have k1_0 : W1.cell? ⟨w.heap.size, 0, none⟩ = some (.slice A n c) := by rw [hW1]; first | (simp [go_sem, *]; done) | (refine Gr.at ?_ (by assumption); exact gr_auto)
  have b1_0 : w.heap.size < W1.heap.size := World.block_lt_of_cell? _ _ k1_0
  have k1_1 : W1.cell? ⟨w.heap.size, 1, none⟩ = some (.slice A2 n2 c2) := by rw [hW1]; first | (simp [go_sem, *]; done) | (refine Gr.at ?_ (by assumption); exact gr_auto)
  clear hW1
  refine (HV.out _ g1).mono ?_
  rintro e w2 ⟨rfl, hb2⟩
  have g2 := g1.trans hb2
  have k1_0 := Gr.at (w1 := w2) gr_auto k1_0; have k1_1 := Gr.at (w1 := w2) gr_auto k1_1
  go_wp2_with fail
  go_ret2
  exact retLE_nil gr_auto

set_option maxRecDepth 100000 in
set_option maxHeartbeats 4000000 in
theorem rcut_n (A A2 : Option Addr) (n c n2 c2 : Nat) (F T : Ba.SlS) (w : World) (e1 e2 : Int) (he : e1 = 9 ∨ e2 = 9) (HV : Hid (∀ W, Gr w W → Calls Try.prog 53 #[.agg #[.slice A n c, .slice A2 n2 c2]] W fun e w' => e = .returned (.bool true) ∧ Gr W w')) (H1 : Hid (∀ W, Gr w W → Calls Try.prog 42 #[.agg #[.slice A n c, .slice A2 n2 c2], .slice F.A F.n F.c] W fun e w' => ∃ s : Ba.SlB, e = .returned (.tuple #[.slice s.A s.n s.c, .int .i64 e1]) ∧ Gr W w')) (H2 : Hid (∀ W, Gr w W → Calls Try.prog 42 #[.agg #[.slice A n c, .slice A2 n2 c2], .slice T.A T.n T.c] W fun e w' => ∃ s : Ba.SlB, e = .returned (.tuple #[.slice s.A s.n s.c, .int .i64 e2]) ∧ Gr W w')) : Calls Try.prog 28 #[.agg #[.slice A n c, .slice A2 n2 c2], .slice F.A F.n F.c, .slice T.A T.n T.c] w (RetLE [] 9 w) := by
  go_enter Try.func28, Try.ntmps28
  go_wp2_with fail
  (first | refine name_world ?_ | refine (show (∀ W, W = _ → Calls _ _ _ W _) → Calls _ _ _ _ _ from fun h => h _ rfl) ?_); intro W1 hW1
  have g1 : Gr w W1 := by rw [hW1]; exact gr_auto
  have k1_0 : W1.cell? ⟨w.heap.size, 0, none⟩ = some (.slice A n c) := by rw [hW1]; first | (simp [go_sem, *]; done) | (refine Gr.at ?_ (by assumption); exact gr_auto)
  have b1_0 : w.heap.size < W1.heap.size := World.block_lt_of_cell? _ _ k1_0
  have k1_1 : W1.cell? ⟨w.heap.size, 1, none⟩ = some (.slice A2 n2 c2) := by rw [hW1]; first | (simp [go_sem, *]; done) | (refine Gr.at ?_ (by assumption); exact gr_auto)
  clear hW1
  refine (HV.out _ g1).mono ?_
  rintro e w2 ⟨rfl, hb2⟩
  have g2 := g1.trans hb2
  have k1_0 := Gr.at (w1 := w2) gr_auto k1_0; have k1_1 := Gr.at (w1 := w2) gr_auto k1_1
  go_wp2_with fail
  refine (H1.out _ g2).mono ?_
  rintro e w3 ⟨sA, rfl, hb3⟩
  have g3 := g2.trans hb3
  have k1_0 := Gr.at (w1 := w3) gr_auto k1_0; have k1_1 := Gr.at (w1 := w3) gr_auto k1_1
  go_wp2_with fail
  refine (H2.out _ g3).mono ?_
  rintro e w4 ⟨sB, rfl, hb4⟩
  have g4 := g3.trans hb4
  have k1_0 := Gr.at (w1 := w4) gr_auto k1_0; have k1_1 := Gr.at (w1 := w4) gr_auto k1_1
  cases t0 : (e1 == 9)
  · have t1 : (e2 == 9) = true := by
      rcases he with h | h
      · rw [h] at t0; cases t0
      · rw [h]; rfl
    clear he
    go_wp2_with fail
    go_ret2
    exact retLE_nil gr_auto
  · clear he
    go_wp2_with fail
    go_ret2
    exact retLE_nil gr_auto

set_option maxRecDepth 100000 in
set_option maxHeartbeats 4000000 in
theorem rcut_l (A A2 : Option Addr) (n c n2 c2 : Nat) (F T : Ba.SlS) (w : World) (b2 o2 : Nat) (E : Nat → Ba.Link) (KA : Hid (0 < n2 → A2 = some ⟨b2, o2, none⟩)) (KX : Hid (∀ k, k < n2 → (E k).Cells w b2 (o2 + k * 11))) (SZ : Hid (∀ k, k < n2 → (E k).nm.size ≤ 9223372036854775807)) (hl : n2 ≤ 20) (M1 M2 : Nat → Bool) (fx tx : Nat → Nat) (p : Nat → Bool) (e1 e2 : Int) (h1 : (e1 == 9) = false) (h2 : (e2 == 9) = false) (hn : n ≤ 1000) (HV : Hid (∀ W, Gr w W → Calls Try.prog 53 #[.agg #[.slice A n c, .slice A2 n2 c2]] W fun e w' => e = .returned (.bool true) ∧ Gr W w'))
    (H1 : Hid (∀ W, Gr w W → Calls Try.prog 42 #[.agg #[.slice A n c, .slice A2 n2 c2], .slice F.A F.n F.c] W fun e w' => ∃ s : Ba.SlB, e = .returned (.tuple #[.slice s.A s.n s.c, .int .i64 e1]) ∧ (s.n = n ∧ s.At w' ∧ s.X = M1) ∧ Gr W w')) (H2 : Hid (∀ W, Gr w W → Calls Try.prog 42 #[.agg #[.slice A n c, .slice A2 n2 c2], .slice T.A T.n T.c] W fun e w' => ∃ s : Ba.SlB, e = .returned (.tuple #[.slice s.A s.n s.c, .int .i64 e2]) ∧ (s.n = n ∧ s.At w' ∧ s.X = M2) ∧ Gr W w'))
    (HFF : Hid (∀ k, k < n2 → ∀ W, Gr w W → Calls Try.prog 15 #[.agg #[.slice A n c, .slice A2 n2 c2], .string (E k).fr] W fun e w' => e = .returned (.int .i64 (fx k : Nat)) ∧ Gr W w')) (HFT : Hid (∀ k, k < n2 → ∀ W, Gr w W → Calls Try.prog 15 #[.agg #[.slice A n c, .slice A2 n2 c2], .string (E k).tt] W fun e w' => e = .returned (.int .i64 (tx k : Nat)) ∧ Gr W w')) (HX : Hid (∀ k, k < n2 → fx k < n ∧ tx k < n)) (HP : Hid (∀ k, k < n2 → p k = (M1 (fx k) && M2 (tx k)))) : Calls Try.prog 28 #[.agg #[.slice A n c, .slice A2 n2 c2], .slice F.A F.n F.c, .slice T.A T.n T.c] w (RetLE (Ba.cutL p E n2) 0 w) := by
  obtain ⟨i0, hi0, hz0, hz1, hz2⟩ := info_parts info_str
  have HI := Lib.hid hi0; have HZ0 := Lib.hid hz0; have HZ1 := Lib.hid hz1; have HZ2 := Lib.hid hz2
  clear hi0 hz0 hz1 hz2
  go_enter Try.func28, Try.ntmps28
  go_wp2_with fail
  (first | refine name_world ?_ | refine (show (∀ W, W = _ → Calls _ _ _ W _) → Calls _ _ _ _ _ from fun h => h _ rfl) ?_); intro W1 hW1
  have g1 : Gr w W1 := by rw [hW1]; exact gr_auto
  have k1_0 : W1.cell? ⟨w.heap.size, 0, none⟩ = some (.slice A n c) := by rw [hW1]; first | (simp [go_sem, *]; done) | (refine Gr.at ?_ (by assumption); exact gr_auto)
  have b1_0 : w.heap.size < W1.heap.size := World.block_lt_of_cell? _ _ k1_0
  have k1_1 : W1.cell? ⟨w.heap.size, 1, none⟩ = some (.slice A2 n2 c2) := by rw [hW1]; first | (simp [go_sem, *]; done) | (refine Gr.at ?_ (by assumption); exact gr_auto)
  clear hW1
  refine (HV.out _ g1).mono ?_
  rintro e w2 ⟨rfl, hb2⟩
  have g2 := g1.trans hb2
  have k1_0 := Gr.at (w1 := w2) gr_auto k1_0; have k1_1 := Gr.at (w1 := w2) gr_auto k1_1
  go_wp2_with fail
  refine (H1.out _ g2).mono ?_
  rintro e w3 ⟨sA, rfl, ⟨y1, y2, y3⟩, hb3⟩
  have g3 := g2.trans hb3
  have k1_0 := Gr.at (w1 := w3) gr_auto k1_0; have k1_1 := Gr.at (w1 := w3) gr_auto k1_1
  have YA := Lib.hid y2.hA; have YX := Lib.hid y2.hX; clear y2
  go_wp2_with fail
  refine (H2.out _ g3).mono ?_
  rintro e w4 ⟨sB, rfl, ⟨z1, z2, z3⟩, hb4⟩
  have g4 := g3.trans hb4
  have k1_0 := Gr.at (w1 := w4) gr_auto k1_0; have k1_1 := Gr.at (w1 := w4) gr_auto k1_1
  have ZA := Lib.hid z2.hA; have ZX := Lib.hid z2.hX; clear z2
  go_wp2_with fail
  (first | refine name_world ?_ | refine (show (∀ W, W = _ → Calls _ _ _ W _) → Calls _ _ _ _ _ from fun h => h _ rfl) ?_); intro W7 hW7
  have g7 : Gr w W7 := by rw [hW7]; exact gr_auto
  have gb7_w4 : Gr w4 W7 := by (try clear g7); rw [hW7]; exact gr_auto
  have gb7_w3 : Gr w3 W7 := by (try clear g7); rw [hW7]; exact gr_auto
  have k7_0 : W7.cell? ⟨w.heap.size, 0, none⟩ = some (.slice A n c) := by rw [hW7]; first | (simp [go_sem, *]; done) | (refine Gr.at ?_ (by assumption); exact gr_auto)
  have b7_0 : w.heap.size < W7.heap.size := World.block_lt_of_cell? _ _ k7_0
  have k7_1 : W7.cell? ⟨w.heap.size, 1, none⟩ = some (.slice A2 n2 c2) := by rw [hW7]; first | (simp [go_sem, *]; done) | (refine Gr.at ?_ (by assumption); exact gr_auto)
  clear hW7
  clear k1_0 k1_1 HV H1 H2
  obtain ⟨sa, sn, sc, sb, so, SX⟩ := sA
  obtain ⟨ua, un, uc, ub, uo, UX⟩ := sB
  simp only at y1 y3 YA YX z1 z3 ZA ZX ⊢
  have y1 := y1.symm; have z1 := z1.symm
  subst y1 z1
  subst y3 z3
  go_loopw [12, 13] (fun v q wr => ∃ k : Nat, k ≤ n2 ∧ q = .int .i64 (k : Int) ∧ Hid (wr.ownsRow W7.heap.size 9 1 v (Ba.cutL p E k).length ((Ba.cutL p E k).map Value.string)) ∧ Gr W7 wr) (fun _ q _ => n2 - (intOf q).toNat)
  case atStart => exact ⟨0, Nat.zero_le _, rfl, Lib.hid ⟨rfl, Or.inl ⟨rfl, rfl⟩⟩, Gr.refl _⟩
  case round =>
    obtain ⟨k, hk, rfl, HO, hg⟩ := hrel
    have gr : Gr w wr := g7.trans hg
    have k0 := Gr.at hg k7_0; have k1 := Gr.at hg k7_1
    clear k7_0 k7_1
    by_cases hlt : k < n2
    · obtain rfl := KA.out (by omega)
      obtain ⟨a0, a1, a2, a3, a4, a5, a6, a7, a8, a9, a10⟩ := (KX.out k hlt).gr gr
      have hx := HX.out k hlt
      obtain rfl := YA.out (by omega); obtain rfl := ZA.out (by omega)
      have m0 := Gr.at hg (Gr.at gb7_w3 (YX.out (fx k) (by omega))); have m1 := Gr.at hg (Gr.at gb7_w4 (ZX.out (tx k) (by omega)))
      have ib2 : (0 : Int) ≤ (k : Int) := by omega
      have ib3 : (k : Int) < (n2 : Int) := by omega
      have ib4 : (0 : Int) ≤ (fx k : Int) := by omega
      have ib5 : ((fx k : Nat) : Int) < (n : Int) := by omega
      have ib6 : (0 : Int) ≤ (tx k : Int) := by omega
      have ib7 : ((tx k : Nat) : Int) < (n : Int) := by omega
      have hlen := Ba.cutL_len p E k
      have HT := Lib.hid (show Ba.cutL p E (k + 1) = if p k = true then Ba.cutL p E k ++ [(E k).nm] else Ba.cutL p E k from rfl)
      have hp := HP.out k hlt
      have HF1 := Lib.hid (fun W hW => HFF.out k hlt W hW); have HT1 := Lib.hid (fun W hW => HFT.out k hlt W hW)
      clear KX SZ HFF HFT HX YX ZX HP
      generalize SX (fx k) = qa at *
      generalize UX (tx k) = qb at *
      generalize fx k = f at *
      generalize tx k = t at *
      cases qa
      · rw [hp, Bool.false_and, if_neg (by decide)] at HT
        go_wp2_with fail
        (first | refine name_world ?_ | refine (show (∀ W, W = _ → Calls _ _ _ W _) → Calls _ _ _ _ _ from fun h => h _ rfl) ?_); intro W5 hW5
        have g5 : Gr w W5 := by rw [hW5]; exact gr_auto
        have gb5_wr : Gr wr W5 := by (try clear g5); rw [hW5]; exact gr_auto
        have k5_0 : W5.cell? ⟨w.heap.size, 0, none⟩ = some (.slice A n c) := by rw [hW5]; first | (simp [go_sem, *]; done) | (refine Gr.at ?_ (by assumption); exact gr_auto)
        have b5_0 : w.heap.size < W5.heap.size := World.block_lt_of_cell? _ _ k5_0
        have k5_1 : W5.cell? ⟨w.heap.size, 1, none⟩ = some (.slice (some ⟨b2, o2, none⟩) n2 c2) := by rw [hW5]; first | (simp [go_sem, *]; done) | (refine Gr.at ?_ (by assumption); exact gr_auto)
        have k5_2 : W5.cell? ⟨b2, o2 + k * 11 + 1, none⟩ = some (.string (E k).fr) := by rw [hW5]; first | (simp [go_sem, *]; done) | (refine Gr.at ?_ (by assumption); exact gr_auto)
        have b5_2 : b2 < W5.heap.size := World.block_lt_of_cell? _ _ k5_2
        have k5_3 : W5.cell? ⟨sb, so + f, none⟩ = some (.bool false) := by rw [hW5]; first | (simp [go_sem, *]; done) | (refine Gr.at ?_ (by assumption); exact gr_auto)
        have b5_3 : sb < W5.heap.size := World.block_lt_of_cell? _ _ k5_3
        clear hW5
        have s5_0 : ∀ gw : GW W5, gw.1.cell? ⟨w.heap.size, 0, none⟩ = some (.slice A n c) := fun gw => Gr.at gw.2 k5_0
        have s5_1 : ∀ gw : GW W5, gw.1.cell? ⟨w.heap.size, 1, none⟩ = some (.slice (some ⟨b2, o2, none⟩) n2 c2) := fun gw => Gr.at gw.2 k5_1
        have s5_2 : ∀ gw : GW W5, gw.1.cell? ⟨b2, o2 + k * 11 + 1, none⟩ = some (.string (E k).fr) := fun gw => Gr.at gw.2 k5_2
        have s5_3 : ∀ gw : GW W5, gw.1.cell? ⟨sb, so + f, none⟩ = some (.bool false) := fun gw => Gr.at gw.2 k5_3
        have HA6 := Lib.hid (fun gw : GW W5 => gw_call (HF1.out gw.1 (g5.trans gw.2)))
        refine wp_region_gr (by kernel_rfl) (by kernel_rfl) ?_
        repeat (go_big_quiet_step ((go_at_call 15; exact HA6.out _)))
        refine wpQuiet_nil ?_
        intro w6 hb6
        clear s5_0 s5_1 s5_2 s5_3
        have g6 : Gr w w6 := g5.trans hb6
        have k5_0 := Gr.at hb6 k5_0
        have k5_1 := Gr.at hb6 k5_1
        have k5_2 := Gr.at hb6 k5_2
        have k5_3 := Gr.at hb6 k5_3
        go_wp2_with fail
        go_roundw
        case rel => exact ⟨k + 1, by omega, by go_num, Lib.hid (by rw [HT.out]; exact ownsRow_gr HO.out (gb5_wr.trans hb6)), (hg.trans gb5_wr).trans hb6⟩
        case measure => simp [intOf]; omega
      all_goals
        go_wp2_with fail
        (first | refine name_world ?_ | refine (show (∀ W, W = _ → Calls _ _ _ W _) → Calls _ _ _ _ _ from fun h => h _ rfl) ?_); intro W5 hW5
        have g5 : Gr w W5 := by rw [hW5]; exact gr_auto
        have gb5_wr : Gr wr W5 := by (try clear g5); rw [hW5]; exact gr_auto
        have k5_0 : W5.cell? ⟨w.heap.size, 0, none⟩ = some (.slice A n c) := by rw [hW5]; first | (simp [go_sem, *]; done) | (refine Gr.at ?_ (by assumption); exact gr_auto)
        have b5_0 : w.heap.size < W5.heap.size := World.block_lt_of_cell? _ _ k5_0
        have k5_1 : W5.cell? ⟨w.heap.size, 1, none⟩ = some (.slice (some ⟨b2, o2, none⟩) n2 c2) := by rw [hW5]; first | (simp [go_sem, *]; done) | (refine Gr.at ?_ (by assumption); exact gr_auto)
        have k5_2 : W5.cell? ⟨b2, o2 + k * 11 + 1, none⟩ = some (.string (E k).fr) := by rw [hW5]; first | (simp [go_sem, *]; done) | (refine Gr.at ?_ (by assumption); exact gr_auto)
        have b5_2 : b2 < W5.heap.size := World.block_lt_of_cell? _ _ k5_2
        have k5_3 : W5.cell? ⟨sb, so + f, none⟩ = some (.bool true) := by rw [hW5]; first | (simp [go_sem, *]; done) | (refine Gr.at ?_ (by assumption); exact gr_auto)
        have b5_3 : sb < W5.heap.size := World.block_lt_of_cell? _ _ k5_3
        have k5_4 : W5.cell? ⟨b2, o2 + k * 11 + 2, none⟩ = some (.string (E k).tt) := by rw [hW5]; first | (simp [go_sem, *]; done) | (refine Gr.at ?_ (by assumption); exact gr_auto)
        have k5_5 : W5.cell? ⟨ub, uo + t, none⟩ = some (.bool qb) := by rw [hW5]; first | (simp [go_sem, *]; done) | (refine Gr.at ?_ (by assumption); exact gr_auto)
        have b5_5 : ub < W5.heap.size := World.block_lt_of_cell? _ _ k5_5
        have k5_6 : W5.cell? ⟨b2, o2 + k * 11, none⟩ = some (.string (E k).nm) := by rw [hW5]; first | (simp [go_sem, *]; done) | (refine Gr.at ?_ (by assumption); exact gr_auto)
        clear hW5
        have s5_0 : ∀ gw : GW W5, gw.1.cell? ⟨w.heap.size, 0, none⟩ = some (.slice A n c) := fun gw => Gr.at gw.2 k5_0
        have s5_1 : ∀ gw : GW W5, gw.1.cell? ⟨w.heap.size, 1, none⟩ = some (.slice (some ⟨b2, o2, none⟩) n2 c2) := fun gw => Gr.at gw.2 k5_1
        have s5_2 : ∀ gw : GW W5, gw.1.cell? ⟨b2, o2 + k * 11 + 1, none⟩ = some (.string (E k).fr) := fun gw => Gr.at gw.2 k5_2
        have s5_3 : ∀ gw : GW W5, gw.1.cell? ⟨sb, so + f, none⟩ = some (.bool true) := fun gw => Gr.at gw.2 k5_3
        have s5_4 : ∀ gw : GW W5, gw.1.cell? ⟨b2, o2 + k * 11 + 2, none⟩ = some (.string (E k).tt) := fun gw => Gr.at gw.2 k5_4
        have s5_5 : ∀ gw : GW W5, gw.1.cell? ⟨ub, uo + t, none⟩ = some (.bool qb) := fun gw => Gr.at gw.2 k5_5
        have s5_6 : ∀ gw : GW W5, gw.1.cell? ⟨b2, o2 + k * 11, none⟩ = some (.string (E k).nm) := fun gw => Gr.at gw.2 k5_6
        have HA6 := Lib.hid (fun gw : GW W5 => gw_call (HF1.out gw.1 (g5.trans gw.2)))
        have HB6 := Lib.hid (fun gw : GW W5 => gw_call (HT1.out gw.1 (g5.trans gw.2)))
        refine wp_region_gr (by kernel_rfl) (by kernel_rfl) ?_
        repeat (go_big_quiet_step ((first | (go_at_call 15; with_reducible exact HA6.out _) | (go_at_call 15; with_reducible exact HB6.out _))))
        refine wpQuiet_nil ?_
        intro w6 hb6
        clear s5_0 s5_1 s5_2 s5_3 s5_4 s5_5 s5_6
        have g6 : Gr w w6 := g5.trans hb6
        have k5_0 := Gr.at hb6 k5_0
        have k5_1 := Gr.at hb6 k5_1
        have k5_2 := Gr.at hb6 k5_2
        have k5_3 := Gr.at hb6 k5_3
        have k5_4 := Gr.at hb6 k5_4
        have k5_5 := Gr.at hb6 k5_5
        have k5_6 := Gr.at hb6 k5_6
        have gx := gb5_wr.trans hb6
        have gz7 : Gr W7 w6 := hg.trans gx
        clear a0 a1 a2 a3 a4 a5 a6 a7 a8 a9 a10 k0 k1 m0 m1
        cases qb
        · rw [hp, Bool.true_and, if_neg (by decide)] at HT
          go_wp2_with fail
          go_roundw
          case rel => exact ⟨k + 1, by omega, by go_num, Lib.hid (by rw [HT.out]; exact ownsRow_gr HO.out gx), gz7⟩
          case measure => simp [intOf]; omega
        · rw [hp, Bool.true_and, if_pos rfl] at HT
          go_wp2_with (at_builtin; refine wpList_append_own _ rfl _ _ 34 rfl W7.heap.size 9 i0 (.string ⟨#[]⟩) 1 16 Try.underlying34 HI.out HZ0.out HZ1.out HZ2.out rfl (by decide) _ (Ba.cutL p E k).length ((Ba.cutL p E k).map Value.string) rfl (ownsRow_gr HO.out (by exact gr_auto)) ⟨w6.heap.size, 0, none⟩ 1 1 [.string (E k).nm] rfl rfl ?c1 ?c2 ?c3 ?c4 ?c5 ?_)
          case c1 =>
            intro j u hj
            match j, hj with
            | 0, hj => simp at hj; subst hj; first | (simp [Addr.add, go_sem]; done) | (show World.cell? _ ⟨w6.heap.size, 0, none⟩ = _; rw [World.cell?_alloc_at _ _ _ _ (by simp)]; rfl)
          case c2 => intro u hu; simp at hu; subst hu; rfl
          case c3 => unfold maxLen; omega
          case c4 => omega
          case c5 => have := Gr.size gz7; simp; omega
          intro v' w9 hown' hgrow _
          have hg9 : Gr W7 w9 := by
            refine Gr.own (base := W7.heap.size) ?_ (Nat.le_refl _) (ownsRow_gr HO.out ?_) hgrow
            · exact gr_auto
            · exact gr_auto
          have HO9 := Lib.hid hown'
          clear hown' hgrow
          go_wp2_with fail
          go_roundw
          case rel => exact ⟨k + 1, by omega, by go_num, Lib.hid (by have := HO9.out; rw [HT.out]; simpa using this), hg9⟩
          case measure => simp [intOf]; omega
    · obtain rfl : k = n2 := by omega
      have HLL := Lib.hid (fun x (hx : x ∈ Ba.cutL p E k) => show x.size ≤ 9223372036854775807 from by
        obtain ⟨j, hj, rfl⟩ := Ba.cutL_mem hx
        exact SZ.out j hj)
      clear KX SZ HFF HFT HX YX ZX HP HI HZ0 HZ1 HZ2
      go_wp2_with fail
      go_ret2
      exact retLE_own HO.out HLL.out gr

end Go.Proofs.Ythkmgnaeponfcaa
