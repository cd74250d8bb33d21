/-
  BalanceCloses: it answers true. (Printed by mkcloses.py.)
-/
import Derived.Test.YthkmgnaeponfcaaBaCopy
import Derived.Test.YthkmgnaeponfcaaBaKit
import Derived.Test.YthkmgnaeponfcaaQTail
import Derived.Test.YthkmgnaeponfcaaBaCuts
import Derived.Test.YthkmgnaeponfcaaBaClose
set_option linter.unusedVariables false
set_option linter.unusedSimpArgs false
namespace Go.Proofs.Ythkmgnaeponfcaa
open Go.RowKit
attribute [local go_sem ↓] Go.wp_at_zero Go.wp_at_succ
theorem Own.grz {lo hi : Nat} {w w' : World} {b o : Nat} {v : Value} (h : Own w b o v) (g : GrZ lo hi w w') (hb : b < lo ∨ hi ≤ b) : Own w' b o v :=
  ⟨GrZ.at g hb h.1, by
    have hlt := World.block_lt_of_cell? w ⟨b, o, none⟩ h.1
    have e := g.block b hlt hb
    have := h.2
    simp only [World.frozen?, e] at this ⊢
    exact this⟩

/-- The world has grown; of what was there, the blocks of S alone have turned. -/
structure GrS (S : Nat → Prop) (w w' : World) : Prop where
  os : w'.os = w.os
  tape : w'.tape = w.tape
  output : w'.output = w.output
  size : w.heap.size ≤ w'.heap.size
  block : ∀ k, k < w.heap.size → ¬ S k → w'.heap[k]? = w.heap[k]?
theorem GrS.refl (S : Nat → Prop) (w : World) : GrS S w w := ⟨rfl, rfl, rfl, Nat.le_refl _, fun _ _ _ => rfl⟩
theorem GrS.gr {S : Nat → Prop} {a b c : World} (h : GrS S a b) (k : Gr b c) : GrS S a c :=
  ⟨k.os.trans h.os, k.tape.trans h.tape, k.output.trans h.output, Nat.le_trans h.size (Gr.size k), fun i hi' hR => (Below.block k i (Nat.lt_of_lt_of_le hi' h.size)).trans (h.block i hi' hR)⟩
theorem GrS.drew {S : Nat → Prop} {a b : World} (h : GrS S a b) : GrS S a b.drew := h.gr (Gr.drew (Gr.refl _))
theorem GrS.alloc {S : Nat → Prop} {a b : World} (h : GrS S a b) (o : Obj) : GrS S a (b.alloc o) := h.gr (Gr.alloc (Gr.refl _) o)
theorem GrS.setCell {S : Nat → Prop} {a b : World} (h : GrS S a b) {p : Addr} (hp : S p.block) (u : Value) : GrS S a (b.setCell p u) :=
  ⟨h.os, h.tape, h.output, by simpa [World.setCell] using h.size, fun i hi' hR => (Below.heap_setCell _ _ _ _ (fun e => hR (by rw [e]; exact hp))).trans (h.block i hi' hR)⟩
theorem GrS.at {S : Nat → Prop} {w w' : World} (h : GrS S w w') {b o : Nat} {v : Value} (hb : ¬ S b) (hc : w.cell? ⟨b, o, none⟩ = some v) : w'.cell? ⟨b, o, none⟩ = some v := by
  have hlt := World.block_lt_of_cell? w ⟨b, o, none⟩ hc
  rw [← hc]; exact World.cell?_of_block (w := w) (h.block b hlt hb)
theorem GrS.below {S : Nat → Prop} {w W0 w' : World} (g : Gr w W0) (hl : ∀ k, S k → w.heap.size ≤ k) (h : GrS S W0 w') : Gr w w' :=
  ⟨h.os.trans g.os, h.tape.trans g.tape, h.output.trans g.output, Nat.le_trans (Gr.size g) h.size, fun k hk => (h.block k (Nat.lt_of_lt_of_le hk (Gr.size g)) (fun e => by have := hl k e; omega)).trans (Below.block g k hk)⟩
def S4 (a b c d k : Nat) : Prop := k = a ∨ k = b ∨ k = c ∨ k = d
theorem S4.a {a b c d : Nat} : S4 a b c d a := Or.inl rfl
theorem S4.b {a b c d : Nat} : S4 a b c d b := Or.inr (Or.inl rfl)
theorem S4.c {a b c d : Nat} : S4 a b c d c := Or.inr (Or.inr (Or.inl rfl))
theorem S4.d {a b c d : Nat} : S4 a b c d d := Or.inr (Or.inr (Or.inr rfl))

set_option maxRecDepth 100000 in
set_option maxHeartbeats 8000000 in
theorem closes_2 (A2 SA1 OA1 VA2 PA2 SA2 OA2 GA : Option Addr) (b o b1 o1 bq oq b5 o5 be oe bg og n c n2 c2 vc1 pc1 sc1 oc1 vn2 vc2 pn2 pc2 sn2 sc2 on2 oc2 gc ic : Nat) (inn out ch lo : Int) (w : World) (HA : Hid (∀ W, Gr w W → Calls Try.prog 8 #[] W fun e w' => e = .returned (.bool true) ∧ Gr W w')) (HL : Hid (∀ W, Gr w W → Calls Try.prog 9 #[.agg #[.slice (some ⟨b, o, none⟩) n c, .slice A2 n2 c2, .slice (some ⟨b1, o1, none⟩) n vc1, .slice (some ⟨bq, oq, none⟩) n pc1, .slice SA1 n2 sc1, .slice OA1 n2 oc1, .slice VA2 vn2 vc2, .slice PA2 pn2 pc2, .slice SA2 sn2 sc2, .slice OA2 on2 oc2, .slice (some ⟨b5, o5, none⟩) n ic, .int .i64 inn, .int .i64 out, .slice GA n2 gc]] W fun e w' => e = .returned (.bool false) ∧ Gr W w')) (HG : Hid (∀ W, Gr w W → Calls Try.prog 14 #[.agg #[.slice (some ⟨b, o, none⟩) n c, .slice A2 n2 c2], .agg #[.slice (some ⟨b1, o1, none⟩) n vc1, .slice (some ⟨bq, oq, none⟩) n pc1, .slice SA1 n2 sc1, .slice OA1 n2 oc1], .agg #[.slice VA2 vn2 vc2, .slice PA2 pn2 pc2, .slice SA2 sn2 sc2, .slice OA2 on2 oc2], .slice (some ⟨b5, o5, none⟩) n ic, .agg #[.int .i64 inn, .int .i64 out, .slice GA n2 gc]] W fun e w' => e = .returned (.int .i64 0) ∧ Gr W w'))
    (hn0 : 0 < n) (hn : n ≤ 12) (hl : n2 ≤ 20) (D : Nat → Ba.Node) (E : Nat → Ba.Link) (V1 Q1 J Qp : Nat → Int) (cap : Nat → Int)
    (HD : Hid (∀ i, i < n → (D i).Cells w b (o + i * 9) ∧ (D i).nm.size ≤ 9223372036854775807)) (KA : Hid (0 < n2 → A2 = some ⟨be, oe, none⟩)) (HE : Hid (∀ k, k < n2 → (E k).Cells w be (oe + k * 11))) (GA0 : Hid (0 < n2 → GA = some ⟨bg, og, none⟩))
    (X1 : Hid (∀ i, i < n → w.cell? ⟨b1, o1 + i, none⟩ = some (.int .i64 (V1 i)))) (X2 : Hid (∀ i, i < n → w.cell? ⟨bq, oq + i, none⟩ = some (.int .i64 (Q1 i)))) (X5 : Hid (∀ i, i < n → w.cell? ⟨b5, o5 + i, none⟩ = some (.int .i64 (J i)))) (XG : Hid (∀ k, k < n2 → w.cell? ⟨bg, og + k, none⟩ = some (.int .i64 (Qp k))))
    (BV : Hid (∀ i, i < n → (0 ≤ V1 i ∧ V1 i ≤ 1125899906842624) ∧ (0 ≤ Q1 i ∧ Q1 i ≤ 1125899906842624) ∧ (0 ≤ J i ∧ J i ≤ 1125899906842624)))
    (hK : Nat → Nat → Int) (pK sJ : Nat → Int) (HK0 : Hid (∀ i, hK 0 i = V1 i + Q1 i + J i)) (HJ0 : Hid (sJ 0 = 0)) (HJS : Hid (∀ i, sJ (i + 1) = sJ i + J i)) (HJB : Hid (∀ i, i ≤ n → 0 ≤ sJ i ∧ sJ i ≤ 13510798882111488))
    (fx tx : Nat → Nat) (HFX : Hid (∀ k, k < n2 → fx k < n ∧ tx k < n)) (HF : Hid (∀ k, k < n2 → ∀ W, Gr w W → Calls Try.prog 15 #[.agg #[.slice (some ⟨b, o, none⟩) n c, .slice A2 n2 c2], .string (E k).fr] W fun e w' => e = .returned (.int .i64 (fx k : Int)) ∧ Gr W w')) (HT : Hid (∀ k, k < n2 → ∀ W, Gr w W → Calls Try.prog 15 #[.agg #[.slice (some ⟨b, o, none⟩) n c, .slice A2 n2 c2], .string (E k).tt] W fun e w' => e = .returned (.int .i64 (tx k : Int)) ∧ Gr W w'))
    (HPK : Hid (∀ k, pK k = Ba.mn (hK k (fx k)) (Qp k))) (HKS : Hid (∀ k, hK (k + 1) = Ba.upI (Ba.upI (hK k) (fx k) (hK k (fx k) - pK k)) (tx k) (Ba.upI (hK k) (fx k) (hK k (fx k) - pK k) (tx k) + pK k))) (HKB : Hid (∀ k, k ≤ n2 → ∀ i, i < n → 0 ≤ hK k i ∧ hK k i ≤ 40532396646334464)) (HPB : Hid (∀ k, k < n2 → (0 ≤ pK k ∧ pK k ≤ 9007199254740992) ∧ 0 ≤ Qp k ∧ Qp k ≤ 9007199254740992))
    (bs os bo oo : Nat) (ST : Nat → Int) (ON : Nat → Bool) (HCP : Hid (∀ W, Gr w W → Calls Try.prog 16 #[.agg #[.slice (some ⟨b1, o1, none⟩) n vc1, .slice (some ⟨bq, oq, none⟩) n pc1, .slice SA1 n2 sc1, .slice OA1 n2 oc1]] W (RetCopy ⟨⟨some ⟨b1, o1, none⟩, n, vc1, b1, o1, V1⟩, ⟨some ⟨bq, oq, none⟩, n, pc1, bq, oq, Q1⟩, ⟨SA1, n2, sc1, bs, os, ST⟩, ⟨OA1, n2, oc1, bo, oo, ON⟩⟩ W)))
    (kp vV vP gO : Nat → Int) (HKP : Hid (∀ i, kp i = if ((D i).kd == 3) = true then 0 else hK n2 i)) (HGO : Hid (gO 0 = 0)) (HGS : Hid (∀ i, gO (i + 1) = gO i + if ((D i).kd == 3) = true then hK n2 i else 0)) (HGB : Hid (∀ i, i ≤ n → 0 ≤ gO i ∧ gO i ≤ 486388759756013568)) (HVV : Hid (∀ i, vV i = Ba.mn (kp i) (cap i))) (HVP : Hid (∀ i, vP i = kp i - vV i)) (HVB : Hid (∀ i, i < n → (0 ≤ kp i ∧ kp i ≤ 40532396646334464) ∧ (0 ≤ vV i ∧ vV i ≤ 1125899906842624) ∧ (0 ≤ vP i ∧ vP i ≤ 40532396646334464) ∧ 0 ≤ cap i ∧ cap i ≤ 1125899906842624))
    (HCAP : Hid (∀ i, i < n → ∀ W, Gr w W → Calls Try.prog 17 #[(D i).val] W fun e w' => e = .returned (.int .i64 (cap i)) ∧ Gr W w'))
    (pa : Nat → Bool) (HPA : Hid (∀ i, i < n → shrB ch i = pa i)) (hch : 0 ≤ ch ∧ ch ≤ 65535) (hlo : 0 ≤ lo ∧ lo ≤ 255)
    (HMK : Hid (∀ (s2 : Ba.State) (g2 : Ba.Ledger), s2.vs.n = n → s2.ps.n = n → s2.st.n = n2 → s2.on.n = n2 → s2.st.X = ST → s2.on.X = ON → (∀ i, i < n → s2.vs.X i = vV i) → (∀ i, i < n → s2.ps.X i = vP i) → (∀ i, i < n → vP i ≤ 1125899906842624) → g2.inn = sJ n → g2.out = gO n → g2.ps.n = n2 → (∀ k, k < n2 → g2.ps.X k = pK k) →
      (∀ W, Gr w W → s2.Ok W → g2.Ok W → Calls Try.prog 10 #[.agg #[.slice (some ⟨b, o, none⟩) n c, .slice A2 n2 c2], .agg #[.slice (some ⟨b1, o1, none⟩) n vc1, .slice (some ⟨bq, oq, none⟩) n pc1, .slice SA1 n2 sc1, .slice OA1 n2 oc1], .agg #[.slice s2.vs.A s2.vs.n s2.vs.c, .slice s2.ps.A s2.ps.n s2.ps.c, .slice s2.st.A s2.st.n s2.st.c, .slice s2.on.A s2.on.n s2.on.c], .slice (some ⟨b5, o5, none⟩) n ic, .agg #[.int .i64 g2.inn, .int .i64 g2.out, .slice g2.ps.A g2.ps.n g2.ps.c]] W fun e w' => e = .returned (.tuple #[.bool true, .int .i64 0, .int .i64 0]) ∧ Gr W w') ∧
      (∀ (l : List Nat) (s : Ba.SlS) W, Gr w W → s2.Ok W → g2.Ok W → s.At W → s.n = l.length → (∀ k, k < s.n → (l.map fun i => (D i).nm)[k]? = some (s.X k)) → l.Nodup → (∀ i, i ∈ l → i < n) → s.n ≤ 1000 → Calls Try.prog 12 #[.agg #[.slice (some ⟨b, o, none⟩) n c, .slice A2 n2 c2], .slice s.A s.n s.c, .agg #[.slice (some ⟨b1, o1, none⟩) n vc1, .slice (some ⟨bq, oq, none⟩) n pc1, .slice SA1 n2 sc1, .slice OA1 n2 oc1], .agg #[.slice s2.vs.A s2.vs.n s2.vs.c, .slice s2.ps.A s2.ps.n s2.ps.c, .slice s2.st.A s2.st.n s2.st.c, .slice s2.on.A s2.on.n s2.on.c], .slice (some ⟨b5, o5, none⟩) n ic, .agg #[.int .i64 g2.inn, .int .i64 g2.out, .slice g2.ps.A g2.ps.n g2.ps.c]] W fun e w' => e = .returned (.tuple #[.int .i64 0, .int .i64 0]) ∧ Gr W w') ∧
      (∀ (s3 : Ba.State) (i0 : Nat), i0 < n → vV i0 ≠ 0 → s3.vs.n = n → s3.ps.n = n → s3.st.n = n2 → s3.on.n = n2 → (∀ i, i < n → s3.vs.X i = if i = i0 then vV i0 - 1 else vV i) → (∀ i, i < n → s3.ps.X i = vP i) → s3.st.X = ST → s3.on.X = ON → ∀ W, Gr w W → s3.Ok W → g2.Ok W → Calls Try.prog 10 #[.agg #[.slice (some ⟨b, o, none⟩) n c, .slice A2 n2 c2], .agg #[.slice (some ⟨b1, o1, none⟩) n vc1, .slice (some ⟨bq, oq, none⟩) n pc1, .slice SA1 n2 sc1, .slice OA1 n2 oc1], .agg #[.slice s3.vs.A s3.vs.n s3.vs.c, .slice s3.ps.A s3.ps.n s3.ps.c, .slice s3.st.A s3.st.n s3.st.c, .slice s3.on.A s3.on.n s3.on.c], .slice (some ⟨b5, o5, none⟩) n ic, .agg #[.int .i64 g2.inn, .int .i64 g2.out, .slice g2.ps.A g2.ps.n g2.ps.c]] W fun e w' => e = .returned (.tuple #[.bool false, .int .i64 1, .int .i64 0]) ∧ Gr W w'))) : Calls Try.prog 4 #[.agg #[.slice (some ⟨b, o, none⟩) n c, .slice A2 n2 c2, .slice (some ⟨b1, o1, none⟩) n vc1, .slice (some ⟨bq, oq, none⟩) n pc1, .slice SA1 n2 sc1, .slice OA1 n2 oc1, .slice VA2 vn2 vc2, .slice PA2 pn2 pc2, .slice SA2 sn2 sc2, .slice OA2 on2 oc2, .slice (some ⟨b5, o5, none⟩) n ic, .int .i64 inn, .int .i64 out, .slice GA n2 gc], .int .u16 ch, .int .u8 lo] w (fun e w' => e = .returned (.bool true) ∧ Gr w w') := by
  obtain ⟨i0, hi0, hz0, hz1, hz2⟩ := info_parts info_i
  have HI := Lib.hid hi0; have HZ0 := Lib.hid hz0; have HZ1 := Lib.hid hz1; have HZ2 := Lib.hid hz2
  clear hi0 hz0 hz1 hz2
  go_enter Try.func4, Try.ntmps4
  go_wp2_with fail
  (first | refine name_world ?_ | refine (show (∀ W, W = _ → Calls _ _ _ W _) → Calls _ _ _ _ _ from fun h => h _ rfl) ?_); intro W1 hW1
  have g1 : Gr w W1 := by rw [hW1]; exact gr_auto
  have k1_0 : W1.cell? ⟨w.heap.size, 0, none⟩ = some (.slice (some ⟨b, o, none⟩) n c) := by rw [hW1]; first | (simp [go_sem, *]; done) | (refine Gr.at ?_ (by assumption); exact gr_auto)
  have b1_0 : w.heap.size < W1.heap.size := World.block_lt_of_cell? _ _ k1_0
  have k1_1 : W1.cell? ⟨w.heap.size, 1, none⟩ = some (.slice A2 n2 c2) := by rw [hW1]; first | (simp [go_sem, *]; done) | (refine Gr.at ?_ (by assumption); exact gr_auto)
  have k1_2 : W1.cell? ⟨w.heap.size, 2, none⟩ = some (.slice (some ⟨b1, o1, none⟩) n vc1) := by rw [hW1]; first | (simp [go_sem, *]; done) | (refine Gr.at ?_ (by assumption); exact gr_auto)
  have k1_3 : W1.cell? ⟨w.heap.size, 3, none⟩ = some (.slice (some ⟨bq, oq, none⟩) n pc1) := by rw [hW1]; first | (simp [go_sem, *]; done) | (refine Gr.at ?_ (by assumption); exact gr_auto)
  have k1_4 : W1.cell? ⟨w.heap.size, 4, none⟩ = some (.slice SA1 n2 sc1) := by rw [hW1]; first | (simp [go_sem, *]; done) | (refine Gr.at ?_ (by assumption); exact gr_auto)
  have k1_5 : W1.cell? ⟨w.heap.size, 5, none⟩ = some (.slice OA1 n2 oc1) := by rw [hW1]; first | (simp [go_sem, *]; done) | (refine Gr.at ?_ (by assumption); exact gr_auto)
  have k1_6 : W1.cell? ⟨w.heap.size, 6, none⟩ = some (.slice VA2 vn2 vc2) := by rw [hW1]; first | (simp [go_sem, *]; done) | (refine Gr.at ?_ (by assumption); exact gr_auto)
  have k1_7 : W1.cell? ⟨w.heap.size, 7, none⟩ = some (.slice PA2 pn2 pc2) := by rw [hW1]; first | (simp [go_sem, *]; done) | (refine Gr.at ?_ (by assumption); exact gr_auto)
  have k1_8 : W1.cell? ⟨w.heap.size, 8, none⟩ = some (.slice SA2 sn2 sc2) := by rw [hW1]; first | (simp [go_sem, *]; done) | (refine Gr.at ?_ (by assumption); exact gr_auto)
  have k1_9 : W1.cell? ⟨w.heap.size, 9, none⟩ = some (.slice OA2 on2 oc2) := by rw [hW1]; first | (simp [go_sem, *]; done) | (refine Gr.at ?_ (by assumption); exact gr_auto)
  have k1_10 : W1.cell? ⟨w.heap.size, 10, none⟩ = some (.slice (some ⟨b5, o5, none⟩) n ic) := by rw [hW1]; first | (simp [go_sem, *]; done) | (refine Gr.at ?_ (by assumption); exact gr_auto)
  have k1_11 : W1.cell? ⟨w.heap.size, 11, none⟩ = some (.int .i64 inn) := by rw [hW1]; first | (simp [go_sem, *]; done) | (refine Gr.at ?_ (by assumption); exact gr_auto)
  have k1_12 : W1.cell? ⟨w.heap.size, 12, none⟩ = some (.int .i64 out) := by rw [hW1]; first | (simp [go_sem, *]; done) | (refine Gr.at ?_ (by assumption); exact gr_auto)
  have k1_13 : W1.cell? ⟨w.heap.size, 13, none⟩ = some (.slice GA n2 gc) := by rw [hW1]; first | (simp [go_sem, *]; done) | (refine Gr.at ?_ (by assumption); exact gr_auto)
  clear hW1
  refine (HA.out _ g1).mono ?_
  rintro e w2 ⟨rfl, hb2⟩
  have g2 := g1.trans hb2
  replace k1_0 := Gr.at (w1 := w2) gr_auto k1_0; replace k1_1 := Gr.at (w1 := w2) gr_auto k1_1; replace k1_2 := Gr.at (w1 := w2) gr_auto k1_2; replace k1_3 := Gr.at (w1 := w2) gr_auto k1_3; replace k1_4 := Gr.at (w1 := w2) gr_auto k1_4; replace k1_5 := Gr.at (w1 := w2) gr_auto k1_5; replace k1_6 := Gr.at (w1 := w2) gr_auto k1_6; replace k1_7 := Gr.at (w1 := w2) gr_auto k1_7; replace k1_8 := Gr.at (w1 := w2) gr_auto k1_8; replace k1_9 := Gr.at (w1 := w2) gr_auto k1_9; replace k1_10 := Gr.at (w1 := w2) gr_auto k1_10; replace k1_11 := Gr.at (w1 := w2) gr_auto k1_11; replace k1_12 := Gr.at (w1 := w2) gr_auto k1_12; replace k1_13 := Gr.at (w1 := w2) gr_auto k1_13
  go_wp2_with fail
  refine (HL.out _ g2).mono ?_
  rintro e w3 ⟨rfl, hb3⟩
  have g3 := g2.trans hb3
  replace k1_0 := Gr.at (w1 := w3) gr_auto k1_0; replace k1_1 := Gr.at (w1 := w3) gr_auto k1_1; replace k1_2 := Gr.at (w1 := w3) gr_auto k1_2; replace k1_3 := Gr.at (w1 := w3) gr_auto k1_3; replace k1_4 := Gr.at (w1 := w3) gr_auto k1_4; replace k1_5 := Gr.at (w1 := w3) gr_auto k1_5; replace k1_6 := Gr.at (w1 := w3) gr_auto k1_6; replace k1_7 := Gr.at (w1 := w3) gr_auto k1_7; replace k1_8 := Gr.at (w1 := w3) gr_auto k1_8; replace k1_9 := Gr.at (w1 := w3) gr_auto k1_9; replace k1_10 := Gr.at (w1 := w3) gr_auto k1_10; replace k1_11 := Gr.at (w1 := w3) gr_auto k1_11; replace k1_12 := Gr.at (w1 := w3) gr_auto k1_12; replace k1_13 := Gr.at (w1 := w3) gr_auto k1_13
  go_wp2_with fail
  refine (HG.out _ g3).mono ?_
  rintro e w4 ⟨rfl, hb4⟩
  have g4 := g3.trans hb4
  replace k1_0 := Gr.at (w1 := w4) gr_auto k1_0; replace k1_1 := Gr.at (w1 := w4) gr_auto k1_1; replace k1_2 := Gr.at (w1 := w4) gr_auto k1_2; replace k1_3 := Gr.at (w1 := w4) gr_auto k1_3; replace k1_4 := Gr.at (w1 := w4) gr_auto k1_4; replace k1_5 := Gr.at (w1 := w4) gr_auto k1_5; replace k1_6 := Gr.at (w1 := w4) gr_auto k1_6; replace k1_7 := Gr.at (w1 := w4) gr_auto k1_7; replace k1_8 := Gr.at (w1 := w4) gr_auto k1_8; replace k1_9 := Gr.at (w1 := w4) gr_auto k1_9; replace k1_10 := Gr.at (w1 := w4) gr_auto k1_10; replace k1_11 := Gr.at (w1 := w4) gr_auto k1_11; replace k1_12 := Gr.at (w1 := w4) gr_auto k1_12; replace k1_13 := Gr.at (w1 := w4) gr_auto k1_13
  clear HA HL HG
  obtain ⟨R, hR⟩ : ∃ R, R = w4.heap.size := ⟨_, rfl⟩
  have b0R : w.heap.size < R := by rw [hR]; exact World.block_lt_of_cell? _ _ k1_0
  go_wp2_with (at_make; refine wpList_make_full _ rfl _ _ _ rfl w.heap.size 3 i0 (.int .i64 0) 1 Try.underlying26 HI.out HZ0.out HZ1.out .i64 .i64 n n n rfl rfl rfl rfl ?d1 ?d2 ?d3 ?_)
  case d1 => rw [HZ2.out]; omega
  case d2 => unfold maxLen; omega
  case d3 => exact Gr.size g4
  intro w5 hown hgrow
  have hrowR := Lib.hid (made_row hown)
  have G5 : Gr w4 w5 := Gr.own (Gr.refl _) (Nat.le_refl _) (n := 0) (e := 3) (size := 1) (xs := []) (v := .slice none 0 0) ⟨rfl, Or.inl ⟨rfl, rfl⟩⟩ hgrow
  have hz5 : R < w5.heap.size := by
    obtain ⟨-, ⟨q, -⟩ | ⟨g', cap, cur, hv, -, hc, -⟩⟩ := hown
    · cases q
    · simp only [Value.slice.injEq, Option.some.injEq, Addr.mk.injEq] at hv
      rw [hR, hv.1.1]
      exact (Array.getElem?_eq_some_iff.1 hc).1
  have g5 := g4.trans G5
  replace k1_0 := Gr.at (w1 := w5) gr_auto k1_0; replace k1_1 := Gr.at (w1 := w5) gr_auto k1_1; replace k1_2 := Gr.at (w1 := w5) gr_auto k1_2; replace k1_3 := Gr.at (w1 := w5) gr_auto k1_3; replace k1_4 := Gr.at (w1 := w5) gr_auto k1_4; replace k1_5 := Gr.at (w1 := w5) gr_auto k1_5; replace k1_6 := Gr.at (w1 := w5) gr_auto k1_6; replace k1_7 := Gr.at (w1 := w5) gr_auto k1_7; replace k1_8 := Gr.at (w1 := w5) gr_auto k1_8; replace k1_9 := Gr.at (w1 := w5) gr_auto k1_9; replace k1_10 := Gr.at (w1 := w5) gr_auto k1_10; replace k1_11 := Gr.at (w1 := w5) gr_auto k1_11; replace k1_12 := Gr.at (w1 := w5) gr_auto k1_12; replace k1_13 := Gr.at (w1 := w5) gr_auto k1_13
  rw [← hR] at hrowR
  clear hown hgrow
  rw [← hR]
  clear hR
  obtain ⟨P, hP⟩ : ∃ R, R = w5.heap.size := ⟨_, rfl⟩
  have b0P : w.heap.size < P := by rw [hP]; exact World.block_lt_of_cell? _ _ k1_0
  go_wp2_with (at_make; refine wpList_make_full _ rfl _ _ _ rfl w.heap.size 3 i0 (.int .i64 0) 1 Try.underlying26 HI.out HZ0.out HZ1.out .i64 .i64 n2 n2 n2 rfl rfl rfl rfl ?d1 ?d2 ?d3 ?_)
  case d1 => rw [HZ2.out]; omega
  case d2 => unfold maxLen; omega
  case d3 => exact Gr.size g5
  intro w6 hown hgrow
  have hrowP := Lib.hid (made_row hown)
  have G6 : Gr w5 w6 := Gr.own (Gr.refl _) (Nat.le_refl _) (n := 0) (e := 3) (size := 1) (xs := []) (v := .slice none 0 0) ⟨rfl, Or.inl ⟨rfl, rfl⟩⟩ hgrow
  have hz6 : P < w6.heap.size := by
    obtain ⟨-, ⟨q, -⟩ | ⟨g', cap, cur, hv, -, hc, -⟩⟩ := hown
    · cases q
    · simp only [Value.slice.injEq, Option.some.injEq, Addr.mk.injEq] at hv
      rw [hP, hv.1.1]
      exact (Array.getElem?_eq_some_iff.1 hc).1
  have g6 := g5.trans G6
  replace k1_0 := Gr.at (w1 := w6) gr_auto k1_0; replace k1_1 := Gr.at (w1 := w6) gr_auto k1_1; replace k1_2 := Gr.at (w1 := w6) gr_auto k1_2; replace k1_3 := Gr.at (w1 := w6) gr_auto k1_3; replace k1_4 := Gr.at (w1 := w6) gr_auto k1_4; replace k1_5 := Gr.at (w1 := w6) gr_auto k1_5; replace k1_6 := Gr.at (w1 := w6) gr_auto k1_6; replace k1_7 := Gr.at (w1 := w6) gr_auto k1_7; replace k1_8 := Gr.at (w1 := w6) gr_auto k1_8; replace k1_9 := Gr.at (w1 := w6) gr_auto k1_9; replace k1_10 := Gr.at (w1 := w6) gr_auto k1_10; replace k1_11 := Gr.at (w1 := w6) gr_auto k1_11; replace k1_12 := Gr.at (w1 := w6) gr_auto k1_12; replace k1_13 := Gr.at (w1 := w6) gr_auto k1_13
  rw [← hP] at hrowP
  clear hown hgrow
  rw [← hP]
  have hrowR := Lib.hid (hrowR.out.gr G6)
  have bRP : R < P := by omega
  clear hP
  obtain ⟨M, hM⟩ : ∃ M, M = w6.heap.size := ⟨_, rfl⟩
  go_wp2_with fail
  refine name_world ?_; intro W7 hW7
  have gb7 : Gr w6 W7 := by rw [hW7]; exact gr_auto
  have g7 := g6.trans gb7
  have m0 : Own W7 M 0 (.int .i64 0) := by rw [hW7, hM]; exact ⟨by simp [go_sem], by simp [go_sem]⟩
  have m1 : Own W7 M 1 (.int .i64 0) := by rw [hW7, hM]; exact ⟨by simp [go_sem], by simp [go_sem]⟩
  have m2 : Own W7 M 2 (.slice (some ⟨P, 0, none⟩) n2 n2) := by rw [hW7, hM]; exact ⟨by simp [go_sem], by simp [go_sem]⟩
  have hzM : M < W7.heap.size := by rw [hW7, hM]; simp
  clear hW7
  have bPM : P < M := by omega
  rw [← hM]
  clear hM hz5 hz6
  replace k1_0 := Gr.at (w1 := W7) gr_auto k1_0; replace k1_1 := Gr.at (w1 := W7) gr_auto k1_1; replace k1_2 := Gr.at (w1 := W7) gr_auto k1_2; replace k1_3 := Gr.at (w1 := W7) gr_auto k1_3; replace k1_4 := Gr.at (w1 := W7) gr_auto k1_4; replace k1_5 := Gr.at (w1 := W7) gr_auto k1_5; replace k1_6 := Gr.at (w1 := W7) gr_auto k1_6; replace k1_7 := Gr.at (w1 := W7) gr_auto k1_7; replace k1_8 := Gr.at (w1 := W7) gr_auto k1_8; replace k1_9 := Gr.at (w1 := W7) gr_auto k1_9; replace k1_10 := Gr.at (w1 := W7) gr_auto k1_10; replace k1_11 := Gr.at (w1 := W7) gr_auto k1_11; replace k1_12 := Gr.at (w1 := W7) gr_auto k1_12; replace k1_13 := Gr.at (w1 := W7) gr_auto k1_13
  have hrowR := Lib.hid (hrowR.out.gr gb7); have hrowP := Lib.hid (hrowP.out.gr gb7)
  clear gb7 G5 G6 g1 g2 g3 g4 g5 g6
  go_loopw [64] (fun x wr => ∃ i : Nat, i ≤ n ∧ x = .int .i64 (i : Int) ∧ GrZ R (M + 1) W7 wr ∧ Hid (Row wr R n (fun j => .int .i64 (if j < i then hK 0 j else 0))) ∧ (Own wr M 0 (.int .i64 (sJ i)) ∧ Own wr M 1 (.int .i64 (0)) ∧ Own wr M 2 (.slice (some ⟨P, 0, none⟩) n2 n2)) ∧ Hid (Row wr P n2 (fun _ => .int .i64 0))) (fun x _ => n - (intOf x).toNat)
  case atStart => exact ⟨0, Nat.zero_le _, rfl, GrZ.refl _ _ _, Lib.hid (by simpa using hrowR.out), ⟨by rw [HJ0.out]; exact m0, m1, m2⟩, hrowP⟩
  case round =>
    clear hrowR hrowP m0 m1 m2
    obtain ⟨i, hi, rfl, hg, HR, ⟨m0, m1, m2⟩, HP⟩ := hrel
    have gr : Gr w wr := GrZ.below g7 (by omega) hg
    have k0 := GrZ.at hg (by omega) k1_0; have k1 := GrZ.at hg (by omega) k1_1; have k2 := GrZ.at hg (by omega) k1_2; have k3 := GrZ.at hg (by omega) k1_3; have k4 := GrZ.at hg (by omega) k1_4; have k5 := GrZ.at hg (by omega) k1_5; have k6 := GrZ.at hg (by omega) k1_6; have k7 := GrZ.at hg (by omega) k1_7; have k8 := GrZ.at hg (by omega) k1_8; have k9 := GrZ.at hg (by omega) k1_9; have k10 := GrZ.at hg (by omega) k1_10; have k11 := GrZ.at hg (by omega) k1_11; have k12 := GrZ.at hg (by omega) k1_12; have k13 := GrZ.at hg (by omega) k1_13
    have hMw : M < wr.heap.size := World.block_lt_of_cell? _ _ m0.1
    by_cases hlt : i < n
    · have v1 := Gr.at gr (X1.out i hlt); have v2 := Gr.at gr (X2.out i hlt); have v5 := Gr.at gr (X5.out i hlt)
      obtain ⟨e1, e2, e3⟩ := BV.out i hlt
      have t1 := HK0.out i; have t2 := HJS.out i; have t3 := HJB.out i hi
      have ib0 : (0 : Int) ≤ (i : Int) := by omega
      have ib1 : (i : Int) < (n : Int) := by omega
      obtain ⟨u0, u1⟩ := HR.out i hlt
      simp only [Nat.lt_irrefl, if_false] at u0
      have HRn := Lib.hid (fun (W : World) (x : Int) (hx : x = hK 0 i) (hr : Row W R n (fun j => .int .i64 (if j < i then hK 0 j else 0))) => show Row (W.setCell ⟨R, i, none⟩ (.int .i64 x)) R n (fun j => .int .i64 (if j < i + 1 then hK 0 j else 0)) from Row.set hr (by show Value.int .i64 _ = _; rw [if_pos (Nat.lt_succ_self i), hx]) (fun j _ hj => by
        show Value.int .i64 _ = Value.int .i64 _
        by_cases q : j < i
        · rw [if_pos q, if_pos (by omega)]
        · rw [if_neg q, if_neg (by omega)]))
      have HT1 := Lib.hid t1; have HT2 := Lib.hid t2; have W5 := X5.out i hlt
      clear HD KA HE GA0 X1 X2 X5 XG BV HK0 HJ0 HJS HJB HFX HF HT HPK HKS HKB HPB t1 t2
      generalize V1 i = y1 at *
      generalize Q1 i = y2 at *
      generalize J i = y5 at *
      generalize sJ i = sj at *
      have HW1 := Lib.hid (HRn.out wr _ HT1.out.symm HR.out)
      clear HRn HR
      go_wp2_with fail
      refine wp_region_tail 22 (by kernel_rfl) (by kernel_rfl) ?_
      simp only [List.take_succ_cons, List.take_zero, List.drop_succ_cons, List.drop_zero]
      repeat (go_big_quiet_step (fail))
      refine wpQuiet_nil ?_
      go_wp2_with fail
      refine name_world ?_; intro W9 hW9
      have y9 : GrZ R (M + 1) W7 W9 := by rw [hW9]; (repeat' (first | (with_reducible assumption) | (with_reducible refine GrZ.drew ?_) | (with_reducible refine GrZ.alloc ?_ _) | (with_reducible refine GrZ.setCell ?_ ⟨by simp only; omega, by simp only; omega⟩ _)))
      have m0 : Own W9 M 0 (.int .i64 sj) := (by rw [hW9]; (repeat' (first | (with_reducible assumption) | (with_reducible refine Own.gr ?_ (Gr.drew (Gr.refl _))) | (with_reducible refine Own.gr ?_ (Gr.alloc (Gr.refl _) _)) | (with_reducible refine Own.other ?_ (Or.inl (by omega))) | (with_reducible refine Own.other ?_ (Or.inr (by omega)))))); have m1 : Own W9 M 1 (.int .i64 0) := (by rw [hW9]; (repeat' (first | (with_reducible assumption) | (with_reducible refine Own.gr ?_ (Gr.drew (Gr.refl _))) | (with_reducible refine Own.gr ?_ (Gr.alloc (Gr.refl _) _)) | (with_reducible refine Own.other ?_ (Or.inl (by omega))) | (with_reducible refine Own.other ?_ (Or.inr (by omega)))))); have m2 : Own W9 M 2 (.slice (some ⟨P, 0, none⟩) n2 n2) := (by rw [hW9]; (repeat' (first | (with_reducible assumption) | (with_reducible refine Own.gr ?_ (Gr.drew (Gr.refl _))) | (with_reducible refine Own.gr ?_ (Gr.alloc (Gr.refl _) _)) | (with_reducible refine Own.other ?_ (Or.inl (by omega))) | (with_reducible refine Own.other ?_ (Or.inr (by omega))))))
      have HR := Lib.hid (show Row W9 R n (fun j => .int .i64 (if j < i + 1 then hK 0 j else 0)) from by rw [hW9]; exact HW1.out.gr (Gr.drew (Gr.refl _)))
      have HP := Lib.hid (show Row W9 P n2 (fun _ => .int .i64 0) from fun j hj => by have HPj := HP.out j hj; rw [hW9]; (repeat' (first | (with_reducible assumption) | (with_reducible refine Own.gr ?_ (Gr.drew (Gr.refl _))) | (with_reducible refine Own.gr ?_ (Gr.alloc (Gr.refl _) _)) | (with_reducible refine Own.other ?_ (Or.inl (by omega))) | (with_reducible refine Own.other ?_ (Or.inr (by omega))))))
      have k3 := GrZ.at y9 (by omega) k1_3; have k10 := GrZ.at y9 (by omega) k1_10
      have g9 := GrZ.below g7 (by omega) y9
      have c0 := m0.1; have f0 := m0.2
      have v5 : W9.cell? ⟨b5, o5 + i, none⟩ = some (.int .i64 y5) := Gr.at g9 W5
      clear hW9 HW1
      refine wp_region_tail 9 (by kernel_rfl) (by kernel_rfl) ?_
      simp only [List.take_succ_cons, List.take_zero, List.drop_succ_cons, List.drop_zero]
      repeat (go_big_quiet_step (fail))
      refine wpQuiet_nil ?_
      go_wp2_with fail
      go_roundw
      case rel => exact ⟨i + 1, by omega, by go_num, by (repeat' (first | (with_reducible assumption) | (with_reducible refine GrZ.drew ?_) | (with_reducible refine GrZ.alloc ?_ _) | (with_reducible refine GrZ.setCell ?_ ⟨by simp only; omega, by simp only; omega⟩ _))), Lib.hid (fun j hj => by have HPj := HR.out j hj; (repeat' (first | (with_reducible assumption) | (with_reducible refine Own.gr ?_ (Gr.drew (Gr.refl _))) | (with_reducible refine Own.gr ?_ (Gr.alloc (Gr.refl _) _)) | (with_reducible refine Own.other ?_ (Or.inl (by omega))) | (with_reducible refine Own.other ?_ (Or.inr (by omega)))))), ⟨by rw [HT2.out]; exact (Own.set m0).gr (Gr.drew (Gr.refl _)), by (repeat' (first | (with_reducible assumption) | (with_reducible refine Own.gr ?_ (Gr.drew (Gr.refl _))) | (with_reducible refine Own.gr ?_ (Gr.alloc (Gr.refl _) _)) | (with_reducible refine Own.other ?_ (Or.inl (by omega))) | (with_reducible refine Own.other ?_ (Or.inr (by omega))))), by (repeat' (first | (with_reducible assumption) | (with_reducible refine Own.gr ?_ (Gr.drew (Gr.refl _))) | (with_reducible refine Own.gr ?_ (Gr.alloc (Gr.refl _) _)) | (with_reducible refine Own.other ?_ (Or.inl (by omega))) | (with_reducible refine Own.other ?_ (Or.inr (by omega)))))⟩, Lib.hid (fun j hj => by have HPj := HP.out j hj; (repeat' (first | (with_reducible assumption) | (with_reducible refine Own.gr ?_ (Gr.drew (Gr.refl _))) | (with_reducible refine Own.gr ?_ (Gr.alloc (Gr.refl _) _)) | (with_reducible refine Own.other ?_ (Or.inl (by omega))) | (with_reducible refine Own.other ?_ (Or.inr (by omega))))))⟩
      case measure => simp [intOf]; omega
    · obtain rfl : n = i := by omega
      have HR := Lib.hid (show Row wr R n (fun j => .int .i64 (hK 0 j)) from fun j hj => by have := HR.out j hj; simp only [hj, if_true] at this; exact this)
      go_wp2_with fail
  
      go_loopw [103] (fun x wz => ∃ k : Nat, k ≤ n2 ∧ x = .int .i64 (k : Int) ∧ GrZ R (M + 1) W7 wz ∧ Hid (Row wz R n (fun j => .int .i64 (hK k j))) ∧ (Own wz M 0 (.int .i64 (sJ n)) ∧ Own wz M 1 (.int .i64 (0)) ∧ Own wz M 2 (.slice (some ⟨P, 0, none⟩) n2 n2)) ∧ Hid (Row wz P n2 (fun j => .int .i64 (if j < k then pK j else 0)))) (fun x _ => n2 - (intOf x).toNat)
      case atStart => exact ⟨0, Nat.zero_le _, rfl, hg, HR, ⟨m0, m1, m2⟩, Lib.hid (by simpa using HP.out)⟩
      case round =>
        clear hg HR HP m0 m1 m2 gr k0 k1 k2 k3 k4 k5 k6 k7 k8 k9 k10 k11 k12 k13
        rename_i wq
        obtain ⟨k, hk, rfl, hg, HR, ⟨m0, m1, m2⟩, HP⟩ := hrel
        have gr : Gr w wr := GrZ.below g7 (by omega) hg
        have k0 := GrZ.at hg (by omega) k1_0; have k1 := GrZ.at hg (by omega) k1_1; have k2 := GrZ.at hg (by omega) k1_2; have k3 := GrZ.at hg (by omega) k1_3; have k4 := GrZ.at hg (by omega) k1_4; have k5 := GrZ.at hg (by omega) k1_5; have k6 := GrZ.at hg (by omega) k1_6; have k7 := GrZ.at hg (by omega) k1_7; have k8 := GrZ.at hg (by omega) k1_8; have k9 := GrZ.at hg (by omega) k1_9; have k10 := GrZ.at hg (by omega) k1_10; have k11 := GrZ.at hg (by omega) k1_11; have k12 := GrZ.at hg (by omega) k1_12; have k13 := GrZ.at hg (by omega) k1_13
        have hMw : M < wr.heap.size := World.block_lt_of_cell? _ _ m0.1
        by_cases hlt : k < n2
        · obtain rfl := KA.out (by omega); obtain rfl := GA0.out (by omega)
          obtain ⟨a0, a1, a2, a3, a4, a5, a6, a7, a8, a9, a10⟩ := (HE.out k hlt).gr gr
          obtain ⟨x1, x2⟩ := HFX.out k hlt
          have hb0 : w.heap.size < wr.heap.size := World.block_lt_of_cell? _ _ k0
          have hb1 : w.heap.size ≠ wr.heap.size := by omega
          have W5 := XG.out k hlt
          have ib0 : (0 : Int) ≤ (k : Int) := by omega
          have ib1 : (k : Int) < (n2 : Int) := by omega
          have q1 := HPK.out k; have Q2 := Lib.hid (HKS.out k); have q3 := HKB.out k hk; have q4 := (HKB.out (k + 1) (by omega) (tx k) x2); have q5 := HPB.out k hlt
          have q6 := q3 (fx k) x1
          have HFk := Lib.hid (fun W hW => HF.out k hlt W hW); have HTk := Lib.hid (fun W hW => HT.out k hlt W hW)
          rw [Q2.out] at q4
          clear HD KA HE GA0 X1 X2 X5 XG BV HK0 HJ0 HJS HJB HFX HF HT HPK HKS HKB HPB q3
          obtain ⟨pk, hpk⟩ : ∃ pk, pk = pK k := ⟨_, rfl⟩
          rw [← hpk] at q1 Q2 q4 q5
          replace hpk := hpk.symm
          generalize Qp k = qk at *
          go_wp2_with fail
          (first | refine name_world ?_ | refine (show (∀ W, W = _ → Calls _ _ _ W _) → Calls _ _ _ _ _ from fun h => h _ rfl) ?_); intro W10 hW10
          have g10 : Gr w W10 := by rw [hW10]; exact gr_auto
          have gb10_wr : Gr wr W10 := by (try clear g10); rw [hW10]; exact gr_auto
          have k10_0 : W10.cell? ⟨w.heap.size, 0, none⟩ = some (.slice (some ⟨b, o, none⟩) n c) := by rw [hW10]; first | (simp [go_sem, *]; done) | (refine Gr.at ?_ (by assumption); exact gr_auto)
          have b10_0 : w.heap.size < W10.heap.size := World.block_lt_of_cell? _ _ k10_0
          have k10_1 : W10.cell? ⟨w.heap.size, 1, none⟩ = some (.slice (some ⟨be, oe, none⟩) n2 c2) := by rw [hW10]; first | (simp [go_sem, *]; done) | (refine Gr.at ?_ (by assumption); exact gr_auto)
          have k10_2 : W10.cell? ⟨wr.heap.size, 1, none⟩ = some (.string (E k).fr) := by rw [hW10]; first | (simp [go_sem, *]; done) | (refine Gr.at ?_ (by assumption); exact gr_auto)
          have b10_2 : wr.heap.size < W10.heap.size := World.block_lt_of_cell? _ _ k10_2
          have k10_3 : W10.cell? ⟨wr.heap.size, 2, none⟩ = some (.string (E k).tt) := by rw [hW10]; first | (simp [go_sem, *]; done) | (refine Gr.at ?_ (by assumption); exact gr_auto)
          clear hW10
          have s10_0 : ∀ gw : GW W10, gw.1.cell? ⟨w.heap.size, 0, none⟩ = some (.slice (some ⟨b, o, none⟩) n c) := fun gw => Gr.at gw.2 k10_0
          have s10_1 : ∀ gw : GW W10, gw.1.cell? ⟨w.heap.size, 1, none⟩ = some (.slice (some ⟨be, oe, none⟩) n2 c2) := fun gw => Gr.at gw.2 k10_1
          have s10_2 : ∀ gw : GW W10, gw.1.cell? ⟨wr.heap.size, 1, none⟩ = some (.string (E k).fr) := fun gw => Gr.at gw.2 k10_2
          have s10_3 : ∀ gw : GW W10, gw.1.cell? ⟨wr.heap.size, 2, none⟩ = some (.string (E k).tt) := fun gw => Gr.at gw.2 k10_3
          have HF11 := Lib.hid (fun gw : GW W10 => gw_call (HFk.out gw.1 (g10.trans gw.2)))
          have HT11 := Lib.hid (fun gw : GW W10 => gw_call (HTk.out gw.1 (g10.trans gw.2)))
          refine wp_region_gr (by kernel_rfl) (by kernel_rfl) ?_
          repeat (go_big_quiet_step ((go_at_call 15; first | (with_reducible exact HF11.out _) | (with_reducible exact HT11.out _))))
          refine wpQuiet_nil ?_
          intro w11 hb11
          clear s10_0 s10_1 s10_2 s10_3
          have g11 : Gr w w11 := g10.trans hb11
          have k10_0 := Gr.at hb11 k10_0
          have k10_1 := Gr.at hb11 k10_1
          have k10_2 := Gr.at hb11 k10_2
          have k10_3 := Gr.at hb11 k10_3
          have gz : GrZ R (M + 1) W7 w11 := (hg.gr gb10_wr).gr hb11
          have gxx := gb10_wr.trans hb11
          clear HFk HTk a0 a1 a2 a3 a4 a5 a6 a7 a8 a9 a10 k10_0 k10_1 k10_2 k10_3 k0 k1 k2 k3 k4 k5 k6 k7 k8 k9 k10 k11 k12 k13
          replace m0 := m0.gr gxx; replace m1 := m1.gr gxx; replace m2 := m2.gr gxx
          replace HR := Lib.hid (HR.out.gr gxx); replace HP := Lib.hid (HP.out.gr gxx)
          have k13 := GrZ.at gz (by omega) k1_13
          have v5 : w11.cell? ⟨bg, og + k, none⟩ = some (.int .i64 qk) := Gr.at g11 W5
          obtain ⟨u0, u1⟩ := HR.out (fx k) x1
          obtain ⟨p0, p1⟩ := HP.out k hlt
          simp only [Nat.lt_irrefl, if_false] at p0
          have c2 := m2.1
          generalize hh : hK k (fx k) = h at *
          have ix0 : (0 : Int) ≤ (fx k : Int) := by omega
          have ix1 : ((fx k : Nat) : Int) < (n : Int) := by omega
          have iy0 : (0 : Int) ≤ (tx k : Int) := by omega
          have iy1 : ((tx k : Nat) : Int) < (n : Int) := by omega
          have hmin : min h qk = pk := by rw [q1]; unfold Ba.mn; split <;> omega
          have Hm := Lib.hid hmin
          clear q1 hmin
          go_wp2_with fail
          refine wp_region_tail 15 (by kernel_rfl) (by kernel_rfl) ?_
          simp only [List.take_succ_cons, List.take_zero, List.drop_succ_cons, List.drop_zero]
          repeat (go_big_quiet_step (fail))
          refine wpQuiet_nil ?_
          go_wp2_with fail
          rw [Hm.out]
          have HPn := Lib.hid (show Row (w11.setCell ⟨P, k, none⟩ (.int .i64 pk)) P n2 (fun j => .int .i64 (if j < k + 1 then pK j else 0)) from Row.set (k := k) HP.out (by show Value.int .i64 _ = _; rw [if_pos (Nat.lt_succ_self k), hpk]) (fun j _ hj => by
            show Value.int .i64 _ = Value.int .i64 _
            by_cases q : j < k
            · rw [if_pos q, if_pos (by omega)]
            · rw [if_neg q, if_neg (by omega)]))
          refine name_world ?_; intro W12 hW12
          have y12 : GrZ R (M + 1) W7 W12 := by rw [hW12]; (repeat' (first | (with_reducible assumption) | (with_reducible refine GrZ.drew ?_) | (with_reducible refine GrZ.alloc ?_ _) | (with_reducible refine GrZ.setCell ?_ ⟨by simp only; omega, by simp only; omega⟩ _)))
          have m0 : Own W12 M 0 (.int .i64 (sJ n)) := (by rw [hW12]; (repeat' (first | (with_reducible assumption) | (with_reducible refine Own.gr ?_ (Gr.drew (Gr.refl _))) | (with_reducible refine Own.gr ?_ (Gr.alloc (Gr.refl _) _)) | (with_reducible refine Own.other ?_ (Or.inl (by omega))) | (with_reducible refine Own.other ?_ (Or.inr (by omega)))))); have m1 : Own W12 M 1 (.int .i64 0) := (by rw [hW12]; (repeat' (first | (with_reducible assumption) | (with_reducible refine Own.gr ?_ (Gr.drew (Gr.refl _))) | (with_reducible refine Own.gr ?_ (Gr.alloc (Gr.refl _) _)) | (with_reducible refine Own.other ?_ (Or.inl (by omega))) | (with_reducible refine Own.other ?_ (Or.inr (by omega)))))); have m2 : Own W12 M 2 (.slice (some ⟨P, 0, none⟩) n2 n2) := (by rw [hW12]; (repeat' (first | (with_reducible assumption) | (with_reducible refine Own.gr ?_ (Gr.drew (Gr.refl _))) | (with_reducible refine Own.gr ?_ (Gr.alloc (Gr.refl _) _)) | (with_reducible refine Own.other ?_ (Or.inl (by omega))) | (with_reducible refine Own.other ?_ (Or.inr (by omega))))))
          have HR := Lib.hid (show Row W12 R n (fun j => .int .i64 (hK k j)) from fun j hj => by have HPj := HR.out j hj; rw [hW12]; (repeat' (first | (with_reducible assumption) | (with_reducible refine Own.gr ?_ (Gr.drew (Gr.refl _))) | (with_reducible refine Own.gr ?_ (Gr.alloc (Gr.refl _) _)) | (with_reducible refine Own.other ?_ (Or.inl (by omega))) | (with_reducible refine Own.other ?_ (Or.inr (by omega))))))
          have HP := Lib.hid (show Row W12 P n2 (fun j => .int .i64 (if j < k + 1 then pK j else 0)) from by rw [hW12]; exact HPn.out.gr (Gr.drew (Gr.refl _)))
          clear hW12 u0 u1 p0 p1 c2 v5 k13
          obtain ⟨u0, u1⟩ := HR.out (fx k) x1
          have p0 := (HP.out k hlt).1
          simp only [Nat.lt_succ_self, if_true, hpk] at p0
          replace u0 : W12.cell? ⟨R, fx k, none⟩ = some (.int .i64 h) := by rw [← hh]; exact u0
          have c2 := m2.1
          have hh1 : -9223372036854775808 ≤ h - pk ∧ h - pk ≤ 9223372036854775807 := by omega
          refine wp_region_tail 11 (by kernel_rfl) (by kernel_rfl) ?_
          simp only [List.take_succ_cons, List.take_zero, List.drop_succ_cons, List.drop_zero]
          repeat (go_big_quiet_step (fail))
          refine wpQuiet_nil ?_
          go_wp2_with fail
          have HRn := Lib.hid (show Row (W12.setCell ⟨R, fx k, none⟩ (.int .i64 (h - pk))) R n (fun j => .int .i64 (Ba.upI (hK k) (fx k) (h - pk) j)) from Row.set (k := fx k) HR.out (by show Value.int .i64 _ = _; unfold Ba.upI; rw [if_pos rfl]) (fun j _ hj => by
            show Value.int .i64 _ = Value.int .i64 _
            unfold Ba.upI
            rw [if_neg hj]))
          refine name_world ?_; intro W13 hW13
          have y13 : GrZ R (M + 1) W7 W13 := by rw [hW13]; (repeat' (first | (with_reducible assumption) | (with_reducible refine GrZ.drew ?_) | (with_reducible refine GrZ.alloc ?_ _) | (with_reducible refine GrZ.setCell ?_ ⟨by simp only; omega, by simp only; omega⟩ _)))
          have m0 : Own W13 M 0 (.int .i64 (sJ n)) := (by rw [hW13]; (repeat' (first | (with_reducible assumption) | (with_reducible refine Own.gr ?_ (Gr.drew (Gr.refl _))) | (with_reducible refine Own.gr ?_ (Gr.alloc (Gr.refl _) _)) | (with_reducible refine Own.other ?_ (Or.inl (by omega))) | (with_reducible refine Own.other ?_ (Or.inr (by omega)))))); have m1 : Own W13 M 1 (.int .i64 0) := (by rw [hW13]; (repeat' (first | (with_reducible assumption) | (with_reducible refine Own.gr ?_ (Gr.drew (Gr.refl _))) | (with_reducible refine Own.gr ?_ (Gr.alloc (Gr.refl _) _)) | (with_reducible refine Own.other ?_ (Or.inl (by omega))) | (with_reducible refine Own.other ?_ (Or.inr (by omega)))))); have m2 : Own W13 M 2 (.slice (some ⟨P, 0, none⟩) n2 n2) := (by rw [hW13]; (repeat' (first | (with_reducible assumption) | (with_reducible refine Own.gr ?_ (Gr.drew (Gr.refl _))) | (with_reducible refine Own.gr ?_ (Gr.alloc (Gr.refl _) _)) | (with_reducible refine Own.other ?_ (Or.inl (by omega))) | (with_reducible refine Own.other ?_ (Or.inr (by omega))))))
          have HP := Lib.hid (show Row W13 P n2 (fun j => .int .i64 (if j < k + 1 then pK j else 0)) from fun j hj => by have HPj := HP.out j hj; rw [hW13]; (repeat' (first | (with_reducible assumption) | (with_reducible refine Own.gr ?_ (Gr.drew (Gr.refl _))) | (with_reducible refine Own.gr ?_ (Gr.alloc (Gr.refl _) _)) | (with_reducible refine Own.other ?_ (Or.inl (by omega))) | (with_reducible refine Own.other ?_ (Or.inr (by omega))))))
          have HR := Lib.hid (show Row W13 R n (fun j => .int .i64 (Ba.upI (hK k) (fx k) (h - pk) j)) from by rw [hW13]; exact HRn.out.gr (Gr.drew (Gr.refl _)))
          clear HRn
          clear hW13 u0 u1 p0 c2
          obtain ⟨u0, u1⟩ := HR.out (tx k) x2
          have p0 := (HP.out k hlt).1
          simp only [Nat.lt_succ_self, if_true, hpk] at p0
          have c2 := m2.1
          replace u0 : W13.cell? ⟨R, tx k, none⟩ = some (.int .i64 (Ba.upI (hK k) (fx k) (h - pk) (tx k))) := u0
          have Q4 := Lib.hid q4
          have q6 : Ba.upI (Ba.upI (hK k) (fx k) (h - pk)) (tx k) (Ba.upI (hK k) (fx k) (h - pk) (tx k) + pk) (tx k) = Ba.upI (hK k) (fx k) (h - pk) (tx k) + pk := by unfold Ba.upI; rw [if_pos rfl]
          rw [q6] at q4
          have HRn := Lib.hid (show Row (W13.setCell ⟨R, tx k, none⟩ (.int .i64 (Ba.upI (hK k) (fx k) (h - pk) (tx k) + pk))) R n (fun j => .int .i64 (hK (k + 1) j)) from Row.set (k := tx k) HR.out (by show Value.int .i64 _ = _; rw [Q2.out, q6]) (fun j _ hj => by
            show Value.int .i64 _ = Value.int .i64 _
            rw [Q2.out]
            unfold Ba.upI
            rw [if_neg hj]))
          clear q6 Q2 Q4
          generalize Ba.upI (hK k) (fx k) (h - pk) (tx k) = ut at *
          refine wp_region_tail 11 (by kernel_rfl) (by kernel_rfl) ?_
          simp only [List.take_succ_cons, List.take_zero, List.drop_succ_cons, List.drop_zero]
          repeat (go_big_quiet_step (fail))
          refine wpQuiet_nil ?_
          go_wp2_with fail
          go_roundw
          case rel => exact ⟨k + 1, by omega, by go_num, by (repeat' (first | (with_reducible assumption) | (with_reducible refine GrZ.drew ?_) | (with_reducible refine GrZ.alloc ?_ _) | (with_reducible refine GrZ.setCell ?_ ⟨by simp only; omega, by simp only; omega⟩ _))), Lib.hid (HRn.out.gr (Gr.drew (Gr.refl _))), ⟨by (repeat' (first | (with_reducible assumption) | (with_reducible refine Own.gr ?_ (Gr.drew (Gr.refl _))) | (with_reducible refine Own.gr ?_ (Gr.alloc (Gr.refl _) _)) | (with_reducible refine Own.other ?_ (Or.inl (by omega))) | (with_reducible refine Own.other ?_ (Or.inr (by omega))))), by (repeat' (first | (with_reducible assumption) | (with_reducible refine Own.gr ?_ (Gr.drew (Gr.refl _))) | (with_reducible refine Own.gr ?_ (Gr.alloc (Gr.refl _) _)) | (with_reducible refine Own.other ?_ (Or.inl (by omega))) | (with_reducible refine Own.other ?_ (Or.inr (by omega))))), by (repeat' (first | (with_reducible assumption) | (with_reducible refine Own.gr ?_ (Gr.drew (Gr.refl _))) | (with_reducible refine Own.gr ?_ (Gr.alloc (Gr.refl _) _)) | (with_reducible refine Own.other ?_ (Or.inl (by omega))) | (with_reducible refine Own.other ?_ (Or.inr (by omega)))))⟩, Lib.hid (fun j hj => by have HPj := HP.out j hj; (repeat' (first | (with_reducible assumption) | (with_reducible refine Own.gr ?_ (Gr.drew (Gr.refl _))) | (with_reducible refine Own.gr ?_ (Gr.alloc (Gr.refl _) _)) | (with_reducible refine Own.other ?_ (Or.inl (by omega))) | (with_reducible refine Own.other ?_ (Or.inr (by omega))))))⟩
          case measure => simp [intOf]; omega
        · obtain rfl : n2 = k := by omega
          have HP := Lib.hid (show Row wr P n2 (fun j => .int .i64 (pK j)) from fun j hj => by have := HP.out j hj; simp only [hj, if_true] at this; exact this)
          go_wp2_with fail
      
          refine (HCP.out _ gr).mono ?_
          rintro e w14 ⟨s', rfl, hb14, hok, ⟨e1, e2, e3, e4⟩, ⟨e5, e6, e7, e8⟩, ⟨e9, e10, e11, e12⟩, l1, l2, l3, l4, r1, r2, d1, d2, d3, d4, d5⟩
          obtain ⟨⟨VA, vn, vc, bv, ov, XV⟩, ⟨QA, qn, qc, bw, ow, XW⟩, ⟨TA, tn, tc, bt, ot, XT⟩, ⟨UA, un, uc, bu, ou, XU⟩⟩ := s'
          simp only at e1 e2 e3 e4 e5 e6 e7 e8 e9 e10 e11 e12 l1 l2 l3 l4 r1 r2 d1 d2 d3 d4 d5
          subst vn qn tn un XV XW XT XU ov ow ot ou
          obtain ⟨ok1, ok2, ok3, ok4⟩ := hok
          obtain rfl : VA = some ⟨bv, 0, none⟩ := ok1.hA hn0
          obtain rfl : QA = some ⟨bw, 0, none⟩ := ok2.hA hn0
          replace l1 := l1 hn0; replace l2 := l2 hn0; replace d1 := d1 hn0 hn0
          have hvc := ok1.hc; have hvb := ok1.hb; have hqc := ok2.hc; have hqb := ok2.hb
          have hszM : M < wr.heap.size := World.block_lt_of_cell? _ _ m0.1
          have HOK3 := Lib.hid ok3; have HOK4 := Lib.hid ok4
          have HD2 := Lib.hid (fun h => (⟨l3 h, d2 hn0 h, d4 hn0 h⟩ : wr.heap.size ≤ bt ∧ bt ≠ bv ∧ bt ≠ bw)); have HD3 := Lib.hid (fun h => (⟨l4 h, d3 hn0 h, d5 hn0 h⟩ : wr.heap.size ≤ bu ∧ bu ≠ bv ∧ bu ≠ bw))
          clear ok1 ok2 ok3 ok4 l3 l4 d2 d3 d4 d5
          have hbv : bv < w14.heap.size := World.block_lt_of_cell? w14 ⟨bv, 0, none⟩ (r1 0 hn0).1
          have hbw : bw < w14.heap.size := World.block_lt_of_cell? w14 ⟨bw, 0, none⟩ (r2 0 hn0).1
          have R1 := Lib.hid r1; have R2 := Lib.hid r2
          replace m0 := m0.gr hb14; replace m1 := m1.gr hb14; replace m2 := m2.gr hb14
          replace HR := Lib.hid (HR.out.gr hb14); replace HP := Lib.hid (HP.out.gr hb14)
          have y14 : GrZ R (M + 1) W7 w14 := hg.gr hb14
          have hszr := Gr.size hb14
          clear r1 r2 HCP hb14 hg k0 k1 k2 k3 k4 k5 k6 k7 k8 k9 k10 k11 k12 k13 hMw
          obtain ⟨AB, hAB⟩ : ∃ AB, AB = w14.heap.size := ⟨_, rfl⟩
          have k0 := GrZ.at y14 (by omega) k1_0
          have kb0 : w.heap.size < w14.heap.size := World.block_lt_of_cell? _ _ k0
          have kb1 : w.heap.size ≠ w14.heap.size := by omega
          go_wp2_with fail
          refine name_world ?_; intro W15 hW15
          have gb15 : Gr w14 W15 := by rw [hW15]; exact gr_auto
          have y15 : GrZ R (M + 1) W7 W15 := y14.gr gb15
          have ab0 : W15.cell? ⟨AB, 0, none⟩ = some (.slice (some ⟨bv, 0, none⟩) n vc) := by rw [hW15, hAB]; simp [go_sem]
          have ab1 : W15.cell? ⟨AB, 1, none⟩ = some (.slice (some ⟨bw, 0, none⟩) n qc) := by rw [hW15, hAB]; simp [go_sem]
          have ab2 : W15.cell? ⟨AB, 2, none⟩ = some (.slice TA n2 tc) := by rw [hW15, hAB]; simp [go_sem]
          have ab3 : W15.cell? ⟨AB, 3, none⟩ = some (.slice UA n2 uc) := by rw [hW15, hAB]; simp [go_sem]
          have bAB : bv < AB ∧ bw < AB ∧ M < AB := by omega
          rw [← hAB]
          clear hW15 k0 y14 kb0 kb1
          replace m0 := m0.gr gb15; replace m1 := m1.gr gb15; replace m2 := m2.gr gb15
          replace HR := Lib.hid (HR.out.gr gb15); replace HP := Lib.hid (HP.out.gr gb15)
          replace R1 := Lib.hid (R1.out.gr gb15); replace R2 := Lib.hid (R2.out.gr gb15)
          replace HOK3 := Lib.hid (HOK3.out.gr gb15); replace HOK4 := Lib.hid (HOK4.out.gr gb15)
          have g15 : Gr w W15 := GrZ.below g7 (by omega) y15
          have hABs : AB < W15.heap.size := World.block_lt_of_cell? _ _ ab0
          clear hAB hbv hbw hszr gb15 gr
          replace k1_0 := GrZ.at y15 (by omega) k1_0; replace k1_1 := GrZ.at y15 (by omega) k1_1; replace k1_2 := GrZ.at y15 (by omega) k1_2; replace k1_3 := GrZ.at y15 (by omega) k1_3; replace k1_4 := GrZ.at y15 (by omega) k1_4; replace k1_5 := GrZ.at y15 (by omega) k1_5; replace k1_6 := GrZ.at y15 (by omega) k1_6; replace k1_7 := GrZ.at y15 (by omega) k1_7; replace k1_8 := GrZ.at y15 (by omega) k1_8; replace k1_9 := GrZ.at y15 (by omega) k1_9; replace k1_10 := GrZ.at y15 (by omega) k1_10; replace k1_11 := GrZ.at y15 (by omega) k1_11; replace k1_12 := GrZ.at y15 (by omega) k1_12; replace k1_13 := GrZ.at y15 (by omega) k1_13
          clear y15
          go_loopw [163] (fun x wz => ∃ i : Nat, i ≤ n ∧ x = .int .i64 (i : Int) ∧ GrS (S4 R M bv bw) W15 wz ∧ Hid (∀ j, j < i → vP j ≤ 1125899906842624) ∧ Hid (Row wz R n (fun j => .int .i64 (if j < i then kp j else hK n2 j))) ∧ (Own wz M 0 (.int .i64 (sJ n)) ∧ Own wz M 1 (.int .i64 (gO (i))) ∧ Own wz M 2 (.slice (some ⟨P, 0, none⟩) n2 n2)) ∧ Hid (Row wz bv n (fun j => .int .i64 (if j < i then vV j else V1 j))) ∧ Hid (Row wz bw n (fun j => .int .i64 (if j < i then vP j else Q1 j)))) (fun x _ => n - (intOf x).toNat)
          case atStart => exact ⟨0, Nat.zero_le _, rfl, GrS.refl _ _, Lib.hid (fun j hj => absurd hj (by omega)), Lib.hid (by simpa using HR.out), ⟨m0, by rw [HGO.out]; exact m1, m2⟩, Lib.hid (by simpa using R1.out), Lib.hid (by simpa using R2.out)⟩
          case round =>
            clear HR m0 m1 m2 R1 R2
            rename_i wq
            obtain ⟨i, hi, rfl, hg, HQ, HR, ⟨m0, m1, m2⟩, HV, HW⟩ := hrel
            have gr : Gr w wr := GrS.below g15 (fun k hk => by unfold S4 at hk; omega) hg
            have k0 := GrS.at hg (by unfold S4; omega) k1_0
            have q0 := GrS.at hg (by unfold S4; omega) ab0; have q1 := GrS.at hg (by unfold S4; omega) ab1
            have hAw : AB < wr.heap.size := World.block_lt_of_cell? _ _ q0
            by_cases hlt : i < n
            · obtain ⟨a0, a1, a2, a3, a4, a5, a6, a7, a8⟩ := (HD.out i hlt).1.gr gr
              have hb0 : w.heap.size < wr.heap.size := World.block_lt_of_cell? _ _ k0
              have hb1 : w.heap.size ≠ wr.heap.size := by omega
              have ib0 : (0 : Int) ≤ (i : Int) := by omega
              have ib1 : (i : Int) < (n : Int) := by omega
              have t1 := HKP.out i; have T2 := Lib.hid (HGS.out i); have t3 := HGB.out i hi; have t4 := HVV.out i; have T5 := Lib.hid (HVP.out i); have t6 := HVB.out i hlt; have t7 := HKB.out n2 (Nat.le_refl _) i hlt; have t8 := HGB.out (i + 1) (by omega)
              have HCi := Lib.hid (fun W hW => HCAP.out i hlt W hW)
              clear HD KA HE GA0 X1 X2 X5 XG BV HK0 HJ0 HJS HJB HFX HF HT HPK HKS HKB HPB HKP HGO HGS HGB HVV HVP HVB HCAP HP HOK3 HOK4 HD2 HD3
              generalize hdi : D i = dd at *
              cases tk : (dd.kd == 3)
              · rw [tk, if_neg (by decide)] at t1
                have HO := Lib.hid (show gO (i + 1) = gO i by rw [T2.out, tk, if_neg (by decide)]; omega)
                go_wp2_with fail
                refine name_world ?_; intro W16 hW16
                have y16 : GrS (S4 R M bv bw) W15 W16 := by rw [hW16]; (repeat' (first | (with_reducible assumption) | (with_reducible refine GrS.drew ?_) | (with_reducible refine GrS.alloc ?_ _) | (with_reducible refine GrS.setCell ?_ (by first | exact S4.a | exact S4.b | exact S4.c | exact S4.d) _)))
                have gx : Gr wr W16 := by rw [hW16]; exact gr_auto
                have nd0 : W16.cell? ⟨wr.heap.size, 0, none⟩ = some (.string dd.nm) := (by rw [hW16]; simp [go_sem, *]); have nd1 : W16.cell? ⟨wr.heap.size, 1, none⟩ = some (.int .i64 dd.kd) := (by rw [hW16]; simp [go_sem, *]); have nd2 : W16.cell? ⟨wr.heap.size, 2, none⟩ = some (.int .i64 dd.ax) := (by rw [hW16]; simp [go_sem, *]); have nd3 : W16.cell? ⟨wr.heap.size, 3, none⟩ = some (.int .i64 dd.ay) := (by rw [hW16]; simp [go_sem, *]); have nd4 : W16.cell? ⟨wr.heap.size, 4, none⟩ = some (.int .i64 dd.iv) := (by rw [hW16]; simp [go_sem, *]); have nd5 : W16.cell? ⟨wr.heap.size, 5, none⟩ = some (.int .i64 dd.gr) := (by rw [hW16]; simp [go_sem, *]); have nd6 : W16.cell? ⟨wr.heap.size, 6, none⟩ = some (.slice dd.sh.A dd.sh.n dd.sh.c) := (by rw [hW16]; simp [go_sem, *]); have nd7 : W16.cell? ⟨wr.heap.size, 7, none⟩ = some (.bool dd.pr) := (by rw [hW16]; simp [go_sem, *]); have nd8 : W16.cell? ⟨wr.heap.size, 8, none⟩ = some (.int .i64 dd.rs) := (by rw [hW16]; simp [go_sem, *])
                clear hW16
                have g16 : Gr w W16 := gr.trans gx
                replace m0 := m0.gr gx; replace m1 := m1.gr gx; replace m2 := m2.gr gx
                rw [← HO.out] at m1
                replace HR := Lib.hid (show Row W16 R n (fun j => .int .i64 (if j < i + 1 then kp j else hK n2 j)) from fun j hj => by
                  have hx := (HR.out j hj).gr gx
                  by_cases e : j = i
                  · subst e; simp only [Nat.lt_irrefl, if_false] at hx; simp only [Nat.lt_succ_self, if_true, t1]; exact hx
                  · by_cases q : j < i
                    · simp only [q, if_true] at hx; simp only [show j < i + 1 by omega, if_true]; exact hx
                    · simp only [q, if_false] at hx; simp only [show ¬ j < i + 1 by omega, if_false]; exact hx)
                replace HV := Lib.hid (HV.out.gr gx); replace HW := Lib.hid (HW.out.gr gx)
                have ca0 := GrS.at y16 (by unfold S4; omega) ab0; have ca1 := GrS.at y16 (by unfold S4; omega) ab1
                obtain ⟨u0, u1⟩ := HR.out i hlt
                replace u0 : W16.cell? ⟨R, i, none⟩ = some (.int .i64 (kp i)) := by simp only [Nat.lt_succ_self, if_true] at u0; exact u0
                have hmin : min (kp i) (cap i) = vV i := by rw [t4]; unfold Ba.mn; split <;> omega
                have Hm := Lib.hid hmin
                clear hmin t4 t1
                obtain ⟨ki, hki⟩ : ∃ ki, kp i = ki := ⟨_, rfl⟩
                rw [hki] at t6 u0 Hm
                generalize cap i = ci at *
                unfold Ba.Node.val at HCi
                have sab : ∀ gw : GW W16, gw.1.cell? ⟨AB, 0, none⟩ = some (.slice (some ⟨bv, 0, none⟩) n vc) := fun gw => Gr.at gw.2 ca0; have sri : ∀ gw : GW W16, gw.1.cell? ⟨R, i, none⟩ = some (.int .i64 ki) := fun gw => Gr.at gw.2 u0; have sz0 : ∀ gw : GW W16, gw.1.cell? ⟨wr.heap.size, 0, none⟩ = some (.string dd.nm) := fun gw => Gr.at gw.2 nd0; have sz1 : ∀ gw : GW W16, gw.1.cell? ⟨wr.heap.size, 1, none⟩ = some (.int .i64 dd.kd) := fun gw => Gr.at gw.2 nd1; have sz2 : ∀ gw : GW W16, gw.1.cell? ⟨wr.heap.size, 2, none⟩ = some (.int .i64 dd.ax) := fun gw => Gr.at gw.2 nd2; have sz3 : ∀ gw : GW W16, gw.1.cell? ⟨wr.heap.size, 3, none⟩ = some (.int .i64 dd.ay) := fun gw => Gr.at gw.2 nd3; have sz4 : ∀ gw : GW W16, gw.1.cell? ⟨wr.heap.size, 4, none⟩ = some (.int .i64 dd.iv) := fun gw => Gr.at gw.2 nd4; have sz5 : ∀ gw : GW W16, gw.1.cell? ⟨wr.heap.size, 5, none⟩ = some (.int .i64 dd.gr) := fun gw => Gr.at gw.2 nd5; have sz6 : ∀ gw : GW W16, gw.1.cell? ⟨wr.heap.size, 6, none⟩ = some (.slice dd.sh.A dd.sh.n dd.sh.c) := fun gw => Gr.at gw.2 nd6; have sz7 : ∀ gw : GW W16, gw.1.cell? ⟨wr.heap.size, 7, none⟩ = some (.bool dd.pr) := fun gw => Gr.at gw.2 nd7; have sz8 : ∀ gw : GW W16, gw.1.cell? ⟨wr.heap.size, 8, none⟩ = some (.int .i64 dd.rs) := fun gw => Gr.at gw.2 nd8
                have HC21 := Lib.hid (fun gw : GW W16 => gw_call (HCi.out gw.1 (g16.trans gw.2)))
                refine wp_region_gr_tail 11 (by kernel_rfl) (by kernel_rfl) ?_
                simp only [List.take_succ_cons, List.take_zero, List.drop_succ_cons, List.drop_zero]
                repeat (go_big_quiet_step ((go_at_call 17; exact HC21.out _)))
                refine wpQuiet_nil ?_
                intro w21 hb21
                clear HC21 HCi sab sri sz0 sz1 sz2 sz3 sz4 sz5 sz6 sz7 sz8 nd0 nd1 nd2 nd3 nd4 nd5 nd6 nd7 nd8 a0 a1 a2 a3 a4 a5 a6 a7 a8 u0 u1 ca0 ca1
                have g21 := g16.trans hb21
                have y21 : GrS (S4 R M bv bw) W15 w21 := y16.gr hb21
                replace m0 := m0.gr hb21; replace m1 := m1.gr hb21; replace m2 := m2.gr hb21
                replace HR := Lib.hid (HR.out.gr hb21); replace HV := Lib.hid (HV.out.gr hb21); replace HW := Lib.hid (HW.out.gr hb21)
                obtain ⟨v0, v1⟩ := HV.out i hlt
                simp only [Nat.lt_irrefl, if_false] at v0
                have HVn := Lib.hid (show Row (w21.setCell ⟨bv, i, none⟩ (.int .i64 (vV i))) bv n (fun j => .int .i64 (if j < i + 1 then vV j else V1 j)) from Row.set (k := i) HV.out (by show Value.int .i64 _ = _; rw [if_pos (Nat.lt_succ_self i)]) (fun j _ hj => by
                  show Value.int .i64 _ = Value.int .i64 _
                  by_cases q : j < i
                  · rw [if_pos q, if_pos (by omega)]
                  · rw [if_neg q, if_neg (by omega)]))
                go_wp2_with fail
                rw [Hm.out]
                refine name_world ?_; intro W22 hW22
                have y22 : GrS (S4 R M bv bw) W15 W22 := by rw [hW22]; (repeat' (first | (with_reducible assumption) | (with_reducible refine GrS.drew ?_) | (with_reducible refine GrS.alloc ?_ _) | (with_reducible refine GrS.setCell ?_ (by first | exact S4.a | exact S4.b | exact S4.c | exact S4.d) _)))
                have m0 : Own W22 M 0 (.int .i64 (sJ n)) := (by rw [hW22]; (repeat' (first | (with_reducible assumption) | (with_reducible refine Own.gr ?_ (Gr.drew (Gr.refl _))) | (with_reducible refine Own.gr ?_ (Gr.alloc (Gr.refl _) _)) | (with_reducible refine Own.other ?_ (Or.inl (by omega))) | (with_reducible refine Own.other ?_ (Or.inr (by omega)))))); have m1 : Own W22 M 1 (.int .i64 (gO (i + 1))) := (by rw [hW22]; (repeat' (first | (with_reducible assumption) | (with_reducible refine Own.gr ?_ (Gr.drew (Gr.refl _))) | (with_reducible refine Own.gr ?_ (Gr.alloc (Gr.refl _) _)) | (with_reducible refine Own.other ?_ (Or.inl (by omega))) | (with_reducible refine Own.other ?_ (Or.inr (by omega)))))); have m2 : Own W22 M 2 (.slice (some ⟨P, 0, none⟩) n2 n2) := (by rw [hW22]; (repeat' (first | (with_reducible assumption) | (with_reducible refine Own.gr ?_ (Gr.drew (Gr.refl _))) | (with_reducible refine Own.gr ?_ (Gr.alloc (Gr.refl _) _)) | (with_reducible refine Own.other ?_ (Or.inl (by omega))) | (with_reducible refine Own.other ?_ (Or.inr (by omega))))))
                have HR := Lib.hid (show Row W22 R n (fun j => .int .i64 (if j < i + 1 then kp j else hK n2 j)) from fun j hj => by have HPj := HR.out j hj; rw [hW22]; (repeat' (first | (with_reducible assumption) | (with_reducible refine Own.gr ?_ (Gr.drew (Gr.refl _))) | (with_reducible refine Own.gr ?_ (Gr.alloc (Gr.refl _) _)) | (with_reducible refine Own.other ?_ (Or.inl (by omega))) | (with_reducible refine Own.other ?_ (Or.inr (by omega))))))
                have HV := Lib.hid (show Row W22 bv n (fun j => .int .i64 (if j < i + 1 then vV j else V1 j)) from by rw [hW22]; first | exact HVn.out | exact HVn.out.gr (Gr.drew (Gr.refl _)))
                have HW := Lib.hid (show Row W22 bw n (fun j => .int .i64 (if j < i then vP j else Q1 j)) from fun j hj => by have HPj := HW.out j hj; rw [hW22]; (repeat' (first | (with_reducible assumption) | (with_reducible refine Own.gr ?_ (Gr.drew (Gr.refl _))) | (with_reducible refine Own.gr ?_ (Gr.alloc (Gr.refl _) _)) | (with_reducible refine Own.other ?_ (Or.inl (by omega))) | (with_reducible refine Own.other ?_ (Or.inr (by omega))))))
                clear hW22 HVn v0 v1
                have g22 := GrS.below g15 (fun k hk => by unfold S4 at hk; omega) y22
                have ca0 := GrS.at y22 (by unfold S4; omega) ab0; have ca1 := GrS.at y22 (by unfold S4; omega) ab1
                have u0 : W22.cell? ⟨R, i, none⟩ = some (.int .i64 ki) := by have h := (HR.out i hlt).1; simp only [Nat.lt_succ_self, if_true] at h; rw [hki] at h; exact h
                have v0 : W22.cell? ⟨bv, i, none⟩ = some (.int .i64 (vV i)) := by have h := (HV.out i hlt).1; simp only [Nat.lt_succ_self, if_true] at h; exact h
                obtain ⟨z0, z1⟩ := HW.out i hlt
                simp only [Nat.lt_irrefl, if_false] at z0
                have HWn := Lib.hid (fun (x : Int) (hx : x = vP i) => show Row (W22.setCell ⟨bw, i, none⟩ (.int .i64 x)) bw n (fun j => .int .i64 (if j < i + 1 then vP j else Q1 j)) from Row.set (k := i) HW.out (by show Value.int .i64 _ = _; rw [if_pos (Nat.lt_succ_self i), hx]) (fun j _ hj => by
                  show Value.int .i64 _ = Value.int .i64 _
                  by_cases q : j < i
                  · rw [if_pos q, if_pos (by omega)]
                  · rw [if_neg q, if_neg (by omega)]))
                have T5' := T5.out
                rw [hki] at T5'
                generalize vV i = vi at *
                have T6 := Lib.hid T5'.symm
                clear T5 T5'
                have hrng : -9223372036854775808 ≤ ki - vi ∧ ki - vi ≤ 9223372036854775807 := by omega
                refine wp_region_tail 14 (by kernel_rfl) (by kernel_rfl) ?_
                simp only [List.take_succ_cons, List.take_zero, List.drop_succ_cons, List.drop_zero]
                repeat (go_big_quiet_step (fail))
                refine wpQuiet_nil ?_
                go_wp2_with fail
                · go_ret
                  have yF : GrS (S4 R M bv bw) W15 (W22.setCell ⟨bw, i, none⟩ (.int .i64 (ki - vi))).drew := by (repeat' (first | (with_reducible assumption) | (with_reducible refine GrS.drew ?_) | (with_reducible refine GrS.alloc ?_ _) | (with_reducible refine GrS.setCell ?_ (by first | exact S4.a | exact S4.b | exact S4.c | exact S4.d) _)))
                  exact ⟨rfl, GrS.below (S := (S4 R M bv bw)) g15 (fun k hk => by unfold S4 at hk; omega) yF⟩
                · rename_i hle
                  have HQ2 := Lib.hid (fun j (hj : j < i + 1) => show vP j ≤ 1125899906842624 from by
                    rcases (by omega : j < i ∨ j = i) with q | q
                    · exact HQ.out j q
                    · rw [q, ← T6.out]; exact hle)
                  clear hle
                  go_roundw
                  case rel => exact ⟨i + 1, by omega, by go_num, by (repeat' (first | (with_reducible assumption) | (with_reducible refine GrS.drew ?_) | (with_reducible refine GrS.alloc ?_ _) | (with_reducible refine GrS.setCell ?_ (by first | exact S4.a | exact S4.b | exact S4.c | exact S4.d) _))), HQ2, Lib.hid (fun j hj => by have HPj := HR.out j hj; (repeat' (first | (with_reducible assumption) | (with_reducible refine Own.gr ?_ (Gr.drew (Gr.refl _))) | (with_reducible refine Own.gr ?_ (Gr.alloc (Gr.refl _) _)) | (with_reducible refine Own.other ?_ (Or.inl (by omega))) | (with_reducible refine Own.other ?_ (Or.inr (by omega)))))), ⟨by (repeat' (first | (with_reducible assumption) | (with_reducible refine Own.gr ?_ (Gr.drew (Gr.refl _))) | (with_reducible refine Own.gr ?_ (Gr.alloc (Gr.refl _) _)) | (with_reducible refine Own.other ?_ (Or.inl (by omega))) | (with_reducible refine Own.other ?_ (Or.inr (by omega))))), by (repeat' (first | (with_reducible assumption) | (with_reducible refine Own.gr ?_ (Gr.drew (Gr.refl _))) | (with_reducible refine Own.gr ?_ (Gr.alloc (Gr.refl _) _)) | (with_reducible refine Own.other ?_ (Or.inl (by omega))) | (with_reducible refine Own.other ?_ (Or.inr (by omega))))), by (repeat' (first | (with_reducible assumption) | (with_reducible refine Own.gr ?_ (Gr.drew (Gr.refl _))) | (with_reducible refine Own.gr ?_ (Gr.alloc (Gr.refl _) _)) | (with_reducible refine Own.other ?_ (Or.inl (by omega))) | (with_reducible refine Own.other ?_ (Or.inr (by omega)))))⟩, Lib.hid (fun j hj => by have HPj := HV.out j hj; (repeat' (first | (with_reducible assumption) | (with_reducible refine Own.gr ?_ (Gr.drew (Gr.refl _))) | (with_reducible refine Own.gr ?_ (Gr.alloc (Gr.refl _) _)) | (with_reducible refine Own.other ?_ (Or.inl (by omega))) | (with_reducible refine Own.other ?_ (Or.inr (by omega)))))), Lib.hid (by first | exact (HWn.out _ T6.out).gr (Gr.drew (Gr.refl _)) | exact HWn.out _ T6.out)⟩
                  case measure => simp [intOf]; omega
              · rw [tk, if_pos rfl] at t1
                have HO := Lib.hid (show gO (i + 1) = gO i + hK n2 i by rw [T2.out, tk, if_pos rfl])
                have T8 := T2.out
                rw [tk, if_pos rfl] at T8
                rw [T8] at t8
                clear T8
                obtain ⟨hk, hhk⟩ : ∃ hk, hK n2 i = hk := ⟨_, rfl⟩
                rw [hhk] at t7 t8 HO
                obtain ⟨u0, u1⟩ := HR.out i hlt
                simp only [Nat.lt_irrefl, if_false] at u0
                rw [hhk] at u0
                have HRn := Lib.hid (fun (W : World) (hr : Row W R n (fun j => .int .i64 (if j < i then kp j else hK n2 j))) => show Row (W.setCell ⟨R, i, none⟩ (.int .i64 0)) R n (fun j => .int .i64 (if j < i + 1 then kp j else hK n2 j)) from Row.set (k := i) hr (by show Value.int .i64 _ = _; rw [if_pos (Nat.lt_succ_self i), t1]) (fun j _ hj => by
                  show Value.int .i64 _ = Value.int .i64 _
                  by_cases q : j < i
                  · rw [if_pos q, if_pos (by omega)]
                  · rw [if_neg q, if_neg (by omega)]))
                go_wp2_with fail
                refine name_world ?_; intro W17 hW17
                have y17 : GrS (S4 R M bv bw) W15 W17 := by rw [hW17]; (repeat' (first | (with_reducible assumption) | (with_reducible refine GrS.drew ?_) | (with_reducible refine GrS.alloc ?_ _) | (with_reducible refine GrS.setCell ?_ (by first | exact S4.a | exact S4.b | exact S4.c | exact S4.d) _)))
                have gx : Gr wr W17 := by rw [hW17]; exact gr_auto
                have nd0 : W17.cell? ⟨wr.heap.size, 0, none⟩ = some (.string dd.nm) := (by rw [hW17]; simp [go_sem, *]); have nd1 : W17.cell? ⟨wr.heap.size, 1, none⟩ = some (.int .i64 dd.kd) := (by rw [hW17]; simp [go_sem, *]); have nd2 : W17.cell? ⟨wr.heap.size, 2, none⟩ = some (.int .i64 dd.ax) := (by rw [hW17]; simp [go_sem, *]); have nd3 : W17.cell? ⟨wr.heap.size, 3, none⟩ = some (.int .i64 dd.ay) := (by rw [hW17]; simp [go_sem, *]); have nd4 : W17.cell? ⟨wr.heap.size, 4, none⟩ = some (.int .i64 dd.iv) := (by rw [hW17]; simp [go_sem, *]); have nd5 : W17.cell? ⟨wr.heap.size, 5, none⟩ = some (.int .i64 dd.gr) := (by rw [hW17]; simp [go_sem, *]); have nd6 : W17.cell? ⟨wr.heap.size, 6, none⟩ = some (.slice dd.sh.A dd.sh.n dd.sh.c) := (by rw [hW17]; simp [go_sem, *]); have nd7 : W17.cell? ⟨wr.heap.size, 7, none⟩ = some (.bool dd.pr) := (by rw [hW17]; simp [go_sem, *]); have nd8 : W17.cell? ⟨wr.heap.size, 8, none⟩ = some (.int .i64 dd.rs) := (by rw [hW17]; simp [go_sem, *])
                clear hW17
                replace m0 := m0.gr gx; replace m1 := m1.gr gx; replace m2 := m2.gr gx
                replace HR := Lib.hid (HR.out.gr gx); replace HV := Lib.hid (HV.out.gr gx); replace HW := Lib.hid (HW.out.gr gx)
                replace u0 := Gr.at gx u0
                have c1 := m1.1; have f1 := m1.2
                generalize gO i = go at *
                refine wp_region_tail 8 (by kernel_rfl) (by kernel_rfl) ?_
                simp only [List.take_succ_cons, List.take_zero, List.drop_succ_cons, List.drop_zero]
                repeat (go_big_quiet_step (fail))
                refine wpQuiet_nil ?_
                obtain ⟨u2, u3⟩ := HR.out i hlt
                have hzW : wr.heap.size < W17.heap.size := World.block_lt_of_cell? _ _ nd0
                go_wp2_with fail
                refine name_world ?_; intro W16 hW16
                have y1 : GrS (S4 R M bv bw) W17 W16 := by rw [hW16]; (repeat' (first | (with_reducible exact GrS.refl _ _) | (with_reducible refine GrS.drew ?_) | (with_reducible refine GrS.alloc ?_ _) | (with_reducible refine GrS.setCell ?_ (by first | exact S4.a | exact S4.b | exact S4.c | exact S4.d) _)))
                have y16 : GrS (S4 R M bv bw) W15 W16 := by rw [hW16]; (repeat' (first | (with_reducible assumption) | (with_reducible refine GrS.drew ?_) | (with_reducible refine GrS.alloc ?_ _) | (with_reducible refine GrS.setCell ?_ (by first | exact S4.a | exact S4.b | exact S4.c | exact S4.d) _)))
                have m1' : Own W16 M 1 (.int .i64 (go + hk)) := by rw [hW16]; exact (Own.other (Own.set m1) (Or.inl (by omega))).gr (Gr.drew (Gr.refl _))
                have m0' : Own W16 M 0 (.int .i64 (sJ n)) := by rw [hW16]; (repeat' (first | (with_reducible assumption) | (with_reducible refine Own.gr ?_ (Gr.drew (Gr.refl _))) | (with_reducible refine Own.gr ?_ (Gr.alloc (Gr.refl _) _)) | (with_reducible refine Own.other ?_ (Or.inl (by omega))) | (with_reducible refine Own.other ?_ (Or.inr (by omega)))))
                have m2' : Own W16 M 2 (.slice (some ⟨P, 0, none⟩) n2 n2) := by rw [hW16]; (repeat' (first | (with_reducible assumption) | (with_reducible refine Own.gr ?_ (Gr.drew (Gr.refl _))) | (with_reducible refine Own.gr ?_ (Gr.alloc (Gr.refl _) _)) | (with_reducible refine Own.other ?_ (Or.inl (by omega))) | (with_reducible refine Own.other ?_ (Or.inr (by omega)))))
                have HR' := Lib.hid (show Row W16 R n (fun j => .int .i64 (if j < i + 1 then kp j else hK n2 j)) from by
                  have hx := HRn.out (W17.setCell ⟨M, 1, none⟩ (.int .i64 (go + hk))) (fun j hj => by have HPj := HR.out j hj; (repeat' (first | (with_reducible assumption) | (with_reducible refine Own.gr ?_ (Gr.drew (Gr.refl _))) | (with_reducible refine Own.gr ?_ (Gr.alloc (Gr.refl _) _)) | (with_reducible refine Own.other ?_ (Or.inl (by omega))) | (with_reducible refine Own.other ?_ (Or.inr (by omega))))))
                  rw [hW16]; exact hx.gr (Gr.drew (Gr.refl _)))
                have HV' := Lib.hid (show Row W16 bv n (fun j => .int .i64 (if j < i then vV j else V1 j)) from fun j hj => by have HPj := HV.out j hj; rw [hW16]; (repeat' (first | (with_reducible assumption) | (with_reducible refine Own.gr ?_ (Gr.drew (Gr.refl _))) | (with_reducible refine Own.gr ?_ (Gr.alloc (Gr.refl _) _)) | (with_reducible refine Own.other ?_ (Or.inl (by omega))) | (with_reducible refine Own.other ?_ (Or.inr (by omega))))))
                have HW' := Lib.hid (show Row W16 bw n (fun j => .int .i64 (if j < i then vP j else Q1 j)) from fun j hj => by have HPj := HW.out j hj; rw [hW16]; (repeat' (first | (with_reducible assumption) | (with_reducible refine Own.gr ?_ (Gr.drew (Gr.refl _))) | (with_reducible refine Own.gr ?_ (Gr.alloc (Gr.refl _) _)) | (with_reducible refine Own.other ?_ (Or.inl (by omega))) | (with_reducible refine Own.other ?_ (Or.inr (by omega))))))
                rw [← HO.out] at m1'
                clear hW16 m0 m1 m2 HR HV HW u0 u1 u2 u3 c1 f1 HRn
                have m0 := m0'; have m1 := m1'; have m2 := m2'; have HR := HR'; have HV := HV'; have HW := HW'
                clear m0' m1' m2' HR' HV' HW'
                have g16 : Gr w W16 := GrS.below (S := (S4 R M bv bw)) g15 (fun k hk => by unfold S4 at hk; omega) y16
                replace nd0 := GrS.at y1 (by unfold S4; omega) nd0; replace nd1 := GrS.at y1 (by unfold S4; omega) nd1; replace nd2 := GrS.at y1 (by unfold S4; omega) nd2; replace nd3 := GrS.at y1 (by unfold S4; omega) nd3; replace nd4 := GrS.at y1 (by unfold S4; omega) nd4; replace nd5 := GrS.at y1 (by unfold S4; omega) nd5; replace nd6 := GrS.at y1 (by unfold S4; omega) nd6; replace nd7 := GrS.at y1 (by unfold S4; omega) nd7; replace nd8 := GrS.at y1 (by unfold S4; omega) nd8
                clear y1 gx y17
                have ca0 := GrS.at y16 (by unfold S4; omega) ab0; have ca1 := GrS.at y16 (by unfold S4; omega) ab1
                obtain ⟨u0, u1⟩ := HR.out i hlt
                replace u0 : W16.cell? ⟨R, i, none⟩ = some (.int .i64 (kp i)) := by simp only [Nat.lt_succ_self, if_true] at u0; exact u0
                have hmin : min (kp i) (cap i) = vV i := by rw [t4]; unfold Ba.mn; split <;> omega
                have Hm := Lib.hid hmin
                clear hmin t4 t1
                obtain ⟨ki, hki⟩ : ∃ ki, kp i = ki := ⟨_, rfl⟩
                rw [hki] at t6 u0 Hm
                generalize cap i = ci at *
                unfold Ba.Node.val at HCi
                have sab : ∀ gw : GW W16, gw.1.cell? ⟨AB, 0, none⟩ = some (.slice (some ⟨bv, 0, none⟩) n vc) := fun gw => Gr.at gw.2 ca0; have sri : ∀ gw : GW W16, gw.1.cell? ⟨R, i, none⟩ = some (.int .i64 ki) := fun gw => Gr.at gw.2 u0; have sz0 : ∀ gw : GW W16, gw.1.cell? ⟨wr.heap.size, 0, none⟩ = some (.string dd.nm) := fun gw => Gr.at gw.2 nd0; have sz1 : ∀ gw : GW W16, gw.1.cell? ⟨wr.heap.size, 1, none⟩ = some (.int .i64 dd.kd) := fun gw => Gr.at gw.2 nd1; have sz2 : ∀ gw : GW W16, gw.1.cell? ⟨wr.heap.size, 2, none⟩ = some (.int .i64 dd.ax) := fun gw => Gr.at gw.2 nd2; have sz3 : ∀ gw : GW W16, gw.1.cell? ⟨wr.heap.size, 3, none⟩ = some (.int .i64 dd.ay) := fun gw => Gr.at gw.2 nd3; have sz4 : ∀ gw : GW W16, gw.1.cell? ⟨wr.heap.size, 4, none⟩ = some (.int .i64 dd.iv) := fun gw => Gr.at gw.2 nd4; have sz5 : ∀ gw : GW W16, gw.1.cell? ⟨wr.heap.size, 5, none⟩ = some (.int .i64 dd.gr) := fun gw => Gr.at gw.2 nd5; have sz6 : ∀ gw : GW W16, gw.1.cell? ⟨wr.heap.size, 6, none⟩ = some (.slice dd.sh.A dd.sh.n dd.sh.c) := fun gw => Gr.at gw.2 nd6; have sz7 : ∀ gw : GW W16, gw.1.cell? ⟨wr.heap.size, 7, none⟩ = some (.bool dd.pr) := fun gw => Gr.at gw.2 nd7; have sz8 : ∀ gw : GW W16, gw.1.cell? ⟨wr.heap.size, 8, none⟩ = some (.int .i64 dd.rs) := fun gw => Gr.at gw.2 nd8
                have HC21 := Lib.hid (fun gw : GW W16 => gw_call (HCi.out gw.1 (g16.trans gw.2)))
                refine wp_region_gr_tail 11 (by kernel_rfl) (by kernel_rfl) ?_
                simp only [List.take_succ_cons, List.take_zero, List.drop_succ_cons, List.drop_zero]
                repeat (go_big_quiet_step ((go_at_call 17; exact HC21.out _)))
                refine wpQuiet_nil ?_
                intro w21 hb21
                clear HC21 HCi sab sri sz0 sz1 sz2 sz3 sz4 sz5 sz6 sz7 sz8 nd0 nd1 nd2 nd3 nd4 nd5 nd6 nd7 nd8 a0 a1 a2 a3 a4 a5 a6 a7 a8 u0 u1 ca0 ca1
                have g21 := g16.trans hb21
                have y21 : GrS (S4 R M bv bw) W15 w21 := y16.gr hb21
                replace m0 := m0.gr hb21; replace m1 := m1.gr hb21; replace m2 := m2.gr hb21
                replace HR := Lib.hid (HR.out.gr hb21); replace HV := Lib.hid (HV.out.gr hb21); replace HW := Lib.hid (HW.out.gr hb21)
                obtain ⟨v0, v1⟩ := HV.out i hlt
                simp only [Nat.lt_irrefl, if_false] at v0
                have HVn := Lib.hid (show Row (w21.setCell ⟨bv, i, none⟩ (.int .i64 (vV i))) bv n (fun j => .int .i64 (if j < i + 1 then vV j else V1 j)) from Row.set (k := i) HV.out (by show Value.int .i64 _ = _; rw [if_pos (Nat.lt_succ_self i)]) (fun j _ hj => by
                  show Value.int .i64 _ = Value.int .i64 _
                  by_cases q : j < i
                  · rw [if_pos q, if_pos (by omega)]
                  · rw [if_neg q, if_neg (by omega)]))
                go_wp2_with fail
                rw [Hm.out]
                refine name_world ?_; intro W22 hW22
                have y22 : GrS (S4 R M bv bw) W15 W22 := by rw [hW22]; (repeat' (first | (with_reducible assumption) | (with_reducible refine GrS.drew ?_) | (with_reducible refine GrS.alloc ?_ _) | (with_reducible refine GrS.setCell ?_ (by first | exact S4.a | exact S4.b | exact S4.c | exact S4.d) _)))
                have m0 : Own W22 M 0 (.int .i64 (sJ n)) := (by rw [hW22]; (repeat' (first | (with_reducible assumption) | (with_reducible refine Own.gr ?_ (Gr.drew (Gr.refl _))) | (with_reducible refine Own.gr ?_ (Gr.alloc (Gr.refl _) _)) | (with_reducible refine Own.other ?_ (Or.inl (by omega))) | (with_reducible refine Own.other ?_ (Or.inr (by omega)))))); have m1 : Own W22 M 1 (.int .i64 (gO (i + 1))) := (by rw [hW22]; (repeat' (first | (with_reducible assumption) | (with_reducible refine Own.gr ?_ (Gr.drew (Gr.refl _))) | (with_reducible refine Own.gr ?_ (Gr.alloc (Gr.refl _) _)) | (with_reducible refine Own.other ?_ (Or.inl (by omega))) | (with_reducible refine Own.other ?_ (Or.inr (by omega)))))); have m2 : Own W22 M 2 (.slice (some ⟨P, 0, none⟩) n2 n2) := (by rw [hW22]; (repeat' (first | (with_reducible assumption) | (with_reducible refine Own.gr ?_ (Gr.drew (Gr.refl _))) | (with_reducible refine Own.gr ?_ (Gr.alloc (Gr.refl _) _)) | (with_reducible refine Own.other ?_ (Or.inl (by omega))) | (with_reducible refine Own.other ?_ (Or.inr (by omega))))))
                have HR := Lib.hid (show Row W22 R n (fun j => .int .i64 (if j < i + 1 then kp j else hK n2 j)) from fun j hj => by have HPj := HR.out j hj; rw [hW22]; (repeat' (first | (with_reducible assumption) | (with_reducible refine Own.gr ?_ (Gr.drew (Gr.refl _))) | (with_reducible refine Own.gr ?_ (Gr.alloc (Gr.refl _) _)) | (with_reducible refine Own.other ?_ (Or.inl (by omega))) | (with_reducible refine Own.other ?_ (Or.inr (by omega))))))
                have HV := Lib.hid (show Row W22 bv n (fun j => .int .i64 (if j < i + 1 then vV j else V1 j)) from by rw [hW22]; first | exact HVn.out | exact HVn.out.gr (Gr.drew (Gr.refl _)))
                have HW := Lib.hid (show Row W22 bw n (fun j => .int .i64 (if j < i then vP j else Q1 j)) from fun j hj => by have HPj := HW.out j hj; rw [hW22]; (repeat' (first | (with_reducible assumption) | (with_reducible refine Own.gr ?_ (Gr.drew (Gr.refl _))) | (with_reducible refine Own.gr ?_ (Gr.alloc (Gr.refl _) _)) | (with_reducible refine Own.other ?_ (Or.inl (by omega))) | (with_reducible refine Own.other ?_ (Or.inr (by omega))))))
                clear hW22 HVn v0 v1
                have g22 := GrS.below g15 (fun k hk => by unfold S4 at hk; omega) y22
                have ca0 := GrS.at y22 (by unfold S4; omega) ab0; have ca1 := GrS.at y22 (by unfold S4; omega) ab1
                have u0 : W22.cell? ⟨R, i, none⟩ = some (.int .i64 ki) := by have h := (HR.out i hlt).1; simp only [Nat.lt_succ_self, if_true] at h; rw [hki] at h; exact h
                have v0 : W22.cell? ⟨bv, i, none⟩ = some (.int .i64 (vV i)) := by have h := (HV.out i hlt).1; simp only [Nat.lt_succ_self, if_true] at h; exact h
                obtain ⟨z0, z1⟩ := HW.out i hlt
                simp only [Nat.lt_irrefl, if_false] at z0
                have HWn := Lib.hid (fun (x : Int) (hx : x = vP i) => show Row (W22.setCell ⟨bw, i, none⟩ (.int .i64 x)) bw n (fun j => .int .i64 (if j < i + 1 then vP j else Q1 j)) from Row.set (k := i) HW.out (by show Value.int .i64 _ = _; rw [if_pos (Nat.lt_succ_self i), hx]) (fun j _ hj => by
                  show Value.int .i64 _ = Value.int .i64 _
                  by_cases q : j < i
                  · rw [if_pos q, if_pos (by omega)]
                  · rw [if_neg q, if_neg (by omega)]))
                have T5' := T5.out
                rw [hki] at T5'
                generalize vV i = vi at *
                have T6 := Lib.hid T5'.symm
                clear T5 T5'
                have hrng : -9223372036854775808 ≤ ki - vi ∧ ki - vi ≤ 9223372036854775807 := by omega
                refine wp_region_tail 14 (by kernel_rfl) (by kernel_rfl) ?_
                simp only [List.take_succ_cons, List.take_zero, List.drop_succ_cons, List.drop_zero]
                repeat (go_big_quiet_step (fail))
                refine wpQuiet_nil ?_
                go_wp2_with fail
                · go_ret
                  have yF : GrS (S4 R M bv bw) W15 (W22.setCell ⟨bw, i, none⟩ (.int .i64 (ki - vi))).drew := by (repeat' (first | (with_reducible assumption) | (with_reducible refine GrS.drew ?_) | (with_reducible refine GrS.alloc ?_ _) | (with_reducible refine GrS.setCell ?_ (by first | exact S4.a | exact S4.b | exact S4.c | exact S4.d) _)))
                  exact ⟨rfl, GrS.below (S := (S4 R M bv bw)) g15 (fun k hk => by unfold S4 at hk; omega) yF⟩
                · rename_i hle
                  have HQ2 := Lib.hid (fun j (hj : j < i + 1) => show vP j ≤ 1125899906842624 from by
                    rcases (by omega : j < i ∨ j = i) with q | q
                    · exact HQ.out j q
                    · rw [q, ← T6.out]; exact hle)
                  clear hle
                  go_roundw
                  case rel => exact ⟨i + 1, by omega, by go_num, by (repeat' (first | (with_reducible assumption) | (with_reducible refine GrS.drew ?_) | (with_reducible refine GrS.alloc ?_ _) | (with_reducible refine GrS.setCell ?_ (by first | exact S4.a | exact S4.b | exact S4.c | exact S4.d) _))), HQ2, Lib.hid (fun j hj => by have HPj := HR.out j hj; (repeat' (first | (with_reducible assumption) | (with_reducible refine Own.gr ?_ (Gr.drew (Gr.refl _))) | (with_reducible refine Own.gr ?_ (Gr.alloc (Gr.refl _) _)) | (with_reducible refine Own.other ?_ (Or.inl (by omega))) | (with_reducible refine Own.other ?_ (Or.inr (by omega)))))), ⟨by (repeat' (first | (with_reducible assumption) | (with_reducible refine Own.gr ?_ (Gr.drew (Gr.refl _))) | (with_reducible refine Own.gr ?_ (Gr.alloc (Gr.refl _) _)) | (with_reducible refine Own.other ?_ (Or.inl (by omega))) | (with_reducible refine Own.other ?_ (Or.inr (by omega))))), by (repeat' (first | (with_reducible assumption) | (with_reducible refine Own.gr ?_ (Gr.drew (Gr.refl _))) | (with_reducible refine Own.gr ?_ (Gr.alloc (Gr.refl _) _)) | (with_reducible refine Own.other ?_ (Or.inl (by omega))) | (with_reducible refine Own.other ?_ (Or.inr (by omega))))), by (repeat' (first | (with_reducible assumption) | (with_reducible refine Own.gr ?_ (Gr.drew (Gr.refl _))) | (with_reducible refine Own.gr ?_ (Gr.alloc (Gr.refl _) _)) | (with_reducible refine Own.other ?_ (Or.inl (by omega))) | (with_reducible refine Own.other ?_ (Or.inr (by omega)))))⟩, Lib.hid (fun j hj => by have HPj := HV.out j hj; (repeat' (first | (with_reducible assumption) | (with_reducible refine Own.gr ?_ (Gr.drew (Gr.refl _))) | (with_reducible refine Own.gr ?_ (Gr.alloc (Gr.refl _) _)) | (with_reducible refine Own.other ?_ (Or.inl (by omega))) | (with_reducible refine Own.other ?_ (Or.inr (by omega)))))), Lib.hid (by first | exact (HWn.out _ T6.out).gr (Gr.drew (Gr.refl _)) | exact HWn.out _ T6.out)⟩
                  case measure => simp [intOf]; omega
            · obtain rfl : n = i := by omega
              have p0 := GrS.at hg (by unfold S4; omega) k1_0; have p1 := GrS.at hg (by unfold S4; omega) k1_1; have p2 := GrS.at hg (by unfold S4; omega) k1_2; have p3 := GrS.at hg (by unfold S4; omega) k1_3; have p4 := GrS.at hg (by unfold S4; omega) k1_4; have p5 := GrS.at hg (by unfold S4; omega) k1_5; have p6 := GrS.at hg (by unfold S4; omega) k1_10
              have p7 := GrS.at hg (by unfold S4; omega) ab0; have p8 := GrS.at hg (by unfold S4; omega) ab1; have p9 := GrS.at hg (by unfold S4; omega) ab2; have p10 := GrS.at hg (by unfold S4; omega) ab3
              have p11 := m0.1; have p12 := m1.1; have p13 := m2.1
              have RV := Lib.hid (show Row wr bv n (fun j => .int .i64 (vV j)) from fun j hj => by have := HV.out j hj; simp only [hj, if_true] at this; exact this)
              have RW := Lib.hid (show Row wr bw n (fun j => .int .i64 (vP j)) from fun j hj => by have := HW.out j hj; simp only [hj, if_true] at this; exact this)
              have hT : Ba.SlI.At wr ⟨TA, n2, tc, bt, 0, ST⟩ := ⟨HOK3.out.hA, HOK3.out.hc, HOK3.out.hb, fun j hj => ⟨GrS.at hg (show ¬ S4 R M bv bw bt by have hj2 : j < n2 := hj; have h := HD2.out (by omega); unfold S4; omega) (HOK3.out.hX j hj).1, (HOK3.out.hX j hj).2⟩⟩
              have hU : Ba.SlB.At wr ⟨UA, n2, uc, bu, 0, ON⟩ := ⟨HOK4.out.hA, HOK4.out.hc, HOK4.out.hb, fun j hj => GrS.at hg (show ¬ S4 R M bv bw bu by have hj2 : j < n2 := hj; have h := HD3.out (by omega); unfold S4; omega) (HOK4.out.hX j hj)⟩
              have hS2 : Ba.State.Ok wr (⟨⟨some ⟨bv, 0, none⟩, n, vc, bv, 0, vV⟩, ⟨some ⟨bw, 0, none⟩, n, qc, bw, 0, vP⟩, ⟨TA, n2, tc, bt, 0, ST⟩, ⟨UA, n2, uc, bu, 0, ON⟩⟩ : Ba.State) := ⟨⟨fun _ => rfl, hvc, hvb, fun j hj => ⟨by rw [Nat.zero_add]; exact (RV.out j hj).1, by have := (HVB.out j hj).2.1; unfold Ba.i64; simp only; omega⟩⟩, ⟨fun _ => rfl, hqc, hqb, fun j hj => ⟨by rw [Nat.zero_add]; exact (RW.out j hj).1, by have := (HVB.out j hj).2.2.1; unfold Ba.i64; simp only; omega⟩⟩, hT, hU⟩
              have hG2 : Ba.Ledger.Ok wr (⟨sJ n, gO n, ⟨some ⟨P, 0, none⟩, n2, n2, P, 0, pK⟩⟩ : Ba.Ledger) := ⟨by have := HJB.out n (Nat.le_refl _); unfold Ba.i64; simp only; omega, by have := HGB.out n (Nat.le_refl _); unfold Ba.i64; simp only; omega, ⟨fun _ => rfl, Nat.le_refl _, by show n2 ≤ 9223372036854775807; omega, fun j hj => ⟨by rw [Nat.zero_add]; exact GrS.at hg (show ¬ S4 R M bv bw P by unfold S4; omega) (HP.out j hj).1, by have := (HPB.out j hj).1; unfold Ba.i64; simp only; omega⟩⟩⟩
              obtain ⟨H1, H2, H3⟩ := HMK.out (⟨⟨some ⟨bv, 0, none⟩, n, vc, bv, 0, vV⟩, ⟨some ⟨bw, 0, none⟩, n, qc, bw, 0, vP⟩, ⟨TA, n2, tc, bt, 0, ST⟩, ⟨UA, n2, uc, bu, 0, ON⟩⟩ : Ba.State) (⟨sJ n, gO n, ⟨some ⟨P, 0, none⟩, n2, n2, P, 0, pK⟩⟩ : Ba.Ledger) rfl rfl rfl rfl rfl rfl (fun _ _ => rfl) (fun _ _ => rfl) HQ.out rfl rfl rfl (fun _ _ => rfl)
              have HS1 := Lib.hid (show ∀ W, Gr wr W → Calls Try.prog 10 #[.agg #[.slice (some ⟨b, o, none⟩) n c, .slice A2 n2 c2], .agg #[.slice (some ⟨b1, o1, none⟩) n vc1, .slice (some ⟨bq, oq, none⟩) n pc1, .slice SA1 n2 sc1, .slice OA1 n2 oc1], .agg #[.slice (some ⟨bv, 0, none⟩) n vc, .slice (some ⟨bw, 0, none⟩) n qc, .slice TA n2 tc, .slice UA n2 uc], .slice (some ⟨b5, o5, none⟩) n ic, .agg #[.int .i64 (sJ n), .int .i64 (gO n), .slice (some ⟨P, 0, none⟩) n2 n2]] W fun e w' => e = .returned (.tuple #[.bool true, .int .i64 0, .int .i64 0]) ∧ Gr W w' from fun W hW => H1 W (gr.trans hW) (hS2.gr hW) (hG2.gr hW))
              have HPT := Lib.hid (show ∀ (l : List Nat) (s : Ba.SlS) W, Gr wr W → s.At W → s.n = l.length → (∀ k, k < s.n → (l.map (fun i => (D i).nm))[k]? = some (s.X k)) → l.Nodup → (∀ i, i ∈ l → i < n) → s.n ≤ 1000 → Calls Try.prog 12 #[.agg #[.slice (some ⟨b, o, none⟩) n c, .slice A2 n2 c2], .slice s.A s.n s.c, .agg #[.slice (some ⟨b1, o1, none⟩) n vc1, .slice (some ⟨bq, oq, none⟩) n pc1, .slice SA1 n2 sc1, .slice OA1 n2 oc1], .agg #[.slice (some ⟨bv, 0, none⟩) n vc, .slice (some ⟨bw, 0, none⟩) n qc, .slice TA n2 tc, .slice UA n2 uc], .slice (some ⟨b5, o5, none⟩) n ic, .agg #[.int .i64 (sJ n), .int .i64 (gO n), .slice (some ⟨P, 0, none⟩) n2 n2]] W fun e w' => e = .returned (.tuple #[.int .i64 0, .int .i64 0]) ∧ Gr W w' from fun l s W hW => H2 l s W (gr.trans hW) (hS2.gr hW) (hG2.gr hW))
              have HLS := Lib.hid H3
              have HG2 := Lib.hid hG2; have HTT := Lib.hid hT; have HUU := Lib.hid hU
              have HVB2 := Lib.hid (fun i (hi : i < n) => (HVB.out i hi).2.1); have HVP6 := Lib.hid (fun i (hi : i < n) => (HVB.out i hi).2.2.1)
              clear H1 H2 H3 hS2 hG2 hT hU HMK HR HV HW HQ HP HOK3 HOK4 m0 m1 m2 KA HE GA0 X1 X2 X5 XG BV HK0 HJ0 HJS HJB HFX HF HT HPK HKS HKB HPB HKP HGO HGS HGB HVV HVP HVB HCAP
              go_wp2_with fail
              refine (HS1.out _ (Gr.refl _)).mono ?_
              rintro e w24 ⟨rfl, hb24⟩
              replace p0 := Gr.at (w1 := w24) gr_auto p0; replace p1 := Gr.at (w1 := w24) gr_auto p1; replace p2 := Gr.at (w1 := w24) gr_auto p2; replace p3 := Gr.at (w1 := w24) gr_auto p3; replace p4 := Gr.at (w1 := w24) gr_auto p4; replace p5 := Gr.at (w1 := w24) gr_auto p5; replace p6 := Gr.at (w1 := w24) gr_auto p6; replace p7 := Gr.at (w1 := w24) gr_auto p7; replace p8 := Gr.at (w1 := w24) gr_auto p8; replace p9 := Gr.at (w1 := w24) gr_auto p9; replace p10 := Gr.at (w1 := w24) gr_auto p10; replace p11 := Gr.at (w1 := w24) gr_auto p11; replace p12 := Gr.at (w1 := w24) gr_auto p12; replace p13 := Gr.at (w1 := w24) gr_auto p13
              clear HS1
              obtain ⟨j0, hj0, hy0, hy1, hy2⟩ := info_parts info_str
              have JI := Lib.hid hj0; have JZ0 := Lib.hid hy0; have JZ1 := Lib.hid hy1; have JZ2 := Lib.hid hy2
              clear hj0 hy0 hy1 hy2
              have g24 := gr.trans hb24
              go_wp2_with fail
              go_loopw [20, 231] (fun va q wz => ∃ i : Nat, i ≤ n ∧ q = .int .i64 (i : Int) ∧ Hid (NmRow (fun i => (D i).nm) w24.heap.size wz va (Ba.idx pa i)) ∧ Gr w24 wz) (fun _ q _ => n - (intOf q).toNat)
              case atStart => exact ⟨0, Nat.zero_le _, rfl, Lib.hid ⟨⟨rfl, Or.inl ⟨rfl, rfl⟩⟩, fun _ => rfl⟩, Gr.refl _⟩
              case round =>
                rename_i wq
                obtain ⟨i, hi, rfl, HOA, hg4⟩ := hrel
                have gr4 : Gr w wr := g24.trans hg4
                replace p0 := Gr.at hg4 p0; replace p1 := Gr.at hg4 p1; replace p2 := Gr.at hg4 p2; replace p3 := Gr.at hg4 p3; replace p4 := Gr.at hg4 p4; replace p5 := Gr.at hg4 p5; replace p6 := Gr.at hg4 p6; replace p7 := Gr.at hg4 p7; replace p8 := Gr.at hg4 p8; replace p9 := Gr.at hg4 p9; replace p10 := Gr.at hg4 p10; replace p11 := Gr.at hg4 p11; replace p12 := Gr.at hg4 p12; replace p13 := Gr.at hg4 p13
                by_cases hlt : i < n
                · obtain ⟨a0, a1, a2, a3, a4, a5, a6, a7, a8⟩ := (HD.out i hlt).1.gr gr4
                  have hb0 : w.heap.size < wr.heap.size := World.block_lt_of_cell? _ _ p0
                  have hb1 : w.heap.size ≠ wr.heap.size := by omega
                  have ib0 : (0 : Int) ≤ (i : Int) := by omega
                  have ib1 : (i : Int) < (n : Int) := by omega
                  have hpa := HPA.out i hlt
                  have hl1 := Ba.idx_len pa i
                  clear HD HPA HPT HLS HG2 HTT HUU RV RW
                  cases ta : pa i
                  · have HIA := Lib.hid (show Ba.idx pa (i + 1) = Ba.idx pa i by rw [Ba.idx_succ, ta, if_neg (by decide)])
                    rw [ta] at hpa
                    unfold shrB at hpa
                    go_wp2_with fail
                    go_roundw
                    case rel => exact ⟨i + 1, by omega, by go_num, Lib.hid (by rw [HIA.out]; exact HOA.out.gr (by exact gr_auto)), hg4.trans (by exact gr_auto)⟩
                    case measure => simp [intOf]; omega
                  · have HIA := Lib.hid (show Ba.idx pa (i + 1) = Ba.idx pa i ++ [i] by rw [Ba.idx_succ, ta, if_pos rfl])
                    rw [ta] at hpa
                    unfold shrB at hpa
                    go_wp2_with (at_builtin; refine wpList_append_own _ rfl _ _ 34 rfl w24.heap.size 9 j0 (.string ⟨#[]⟩) 1 16 Try.underlying34 JI.out JZ0.out JZ1.out JZ2.out rfl (by decide) _ (Ba.idx pa i).length (((Ba.idx pa i).map (fun i => (D i).nm)).map Value.string) rfl (ownsRow_gr HOA.out.1 (by exact gr_auto)) ⟨wr.heap.size + 1, 0, none⟩ 1 1 [.string (D i).nm] rfl rfl ?c1 ?c2 ?c3 ?c4 ?c5 ?_)
                    case c1 =>
                      intro j u hj
                      match j, hj with
                      | 0, hj => simp at hj; subst hj; first | (simp [Addr.add, go_sem]; done) | (show World.cell? _ ⟨wr.heap.size + 1, 0, none⟩ = _; rw [World.cell?_alloc_at _ _ _ _ (by simp)]; rfl)
                    case c2 => intro u hu; simp at hu; subst hu; rfl
                    case c3 => unfold maxLen; omega
                    case c4 => omega
                    case c5 => have := Gr.size hg4; simp; omega
                    intro v' w9 hown' hgrow hnil
                    have hg9 : Gr w24 w9 := by
                      refine Gr.own (base := w24.heap.size) ?_ (Nat.le_refl _) (ownsRow_gr HOA.out.1 ?_) hgrow
                      · exact hg4.trans (by exact gr_auto)
                      · exact gr_auto
                    have HO9 := Lib.hid (show NmRow (fun i => (D i).nm) w24.heap.size w9 v' (Ba.idx pa i ++ [i]) from ⟨by simpa using hown', fun h => by simp at h⟩)
                    clear hown' hgrow hnil
                    go_wp2_with fail
                    go_roundw
                    case rel => exact ⟨i + 1, by omega, by go_num, Lib.hid (by rw [HIA.out]; exact HO9.out), hg9⟩
                    case measure => simp [intOf]; omega
                · obtain rfl : n = i := by omega
                  have HNM := Lib.hid (fun (j : Nat) (hj : j < n) => (HD.out j hj).2)
                  obtain ⟨sa, rfl, x1, x2, x3, x4⟩ := NmRow.sls HOA.out (fun j hj => HNM.out j (Ba.idx_mem.1 hj).1)
                  have hl1 := Ba.idx_len pa n
                  have HP1 := Lib.hid (fun W (hW : Gr wr W) => HPT.out (Ba.idx pa n) sa W (hb24.trans (hg4.trans hW)) (x1.gr hW) x2 x3 (Ba.idx_nd _ _) (fun j hj => (Ba.idx_mem.1 hj).1) (by omega))
                  clear HPT HNM HD HPA HOA x1 x2 x3 x4 hl1 JI JZ0 JZ1 JZ2
                  have hi1 : 0 ≤ lo % (n : Int) := Int.emod_nonneg _ (by omega)
                  have hi2 : lo % (n : Int) < (n : Int) := Int.emod_lt_of_pos _ (by omega)
                  obtain ⟨i0, hi0⟩ : ∃ i0 : Nat, lo % (n : Int) = (i0 : Int) := ⟨(lo % (n : Int)).toNat, by omega⟩
                  have hin : i0 < n := by omega
                  have HI0 := Lib.hid hi0
                  clear hi1 hi2 hi0
                  go_wp2_with fail
                  refine (HP1.out _ (Gr.refl _)).mono ?_
                  rintro e w26 ⟨rfl, hb26⟩
                  replace p0 := Gr.at (w1 := w26) gr_auto p0; replace p1 := Gr.at (w1 := w26) gr_auto p1; replace p2 := Gr.at (w1 := w26) gr_auto p2; replace p3 := Gr.at (w1 := w26) gr_auto p3; replace p4 := Gr.at (w1 := w26) gr_auto p4; replace p5 := Gr.at (w1 := w26) gr_auto p5; replace p6 := Gr.at (w1 := w26) gr_auto p6; replace p7 := Gr.at (w1 := w26) gr_auto p7; replace p8 := Gr.at (w1 := w26) gr_auto p8; replace p9 := Gr.at (w1 := w26) gr_auto p9; replace p10 := Gr.at (w1 := w26) gr_auto p10; replace p11 := Gr.at (w1 := w26) gr_auto p11; replace p12 := Gr.at (w1 := w26) gr_auto p12; replace p13 := Gr.at (w1 := w26) gr_auto p13
                  have gz26 := hb24.trans (hg4.trans hb26)
                  have RV6 := Lib.hid (RV.out.gr gz26); have RW6 := Lib.hid (RW.out.gr gz26)
                  have HT6 := Lib.hid (HTT.out.gr gz26); have HU6 := Lib.hid (HUU.out.gr gz26); have HG6 := Lib.hid (HG2.out.gr gz26)
                  have g26 : Gr w w26 := gr4.trans hb26
                  clear HP1 RV RW HTT HUU HG2
                  obtain ⟨v0, v1⟩ := RV6.out i0 hin
                  have vb := HVB2.out i0 hin
                  have hi0 := HI0.out
                  have ib0 : (0 : Int) ≤ (i0 : Int) := by omega
                  have ib1 : (i0 : Int) < (n : Int) := by omega
                  cases tz : (vV i0 == 0)
                  · have hne : vV i0 ≠ 0 := by simpa using tz
                    obtain ⟨vi, hvi⟩ : ∃ vi, vV i0 = vi := ⟨_, rfl⟩
                    rw [hvi] at tz vb
                    replace v0 : w26.cell? ⟨bv, i0, none⟩ = some (.int .i64 vi) := by rw [← hvi]; exact v0
                    go_wp2_with fail
                    refine (show (∀ W, W = _ → Calls _ _ _ W _) → Calls _ _ _ _ _ from fun h => h _ rfl) ?_; intro W27 hW27
                    have y27 : GrS (S4 bv bv bv bv) w26 W27 := by rw [hW27]; (repeat' (first | (with_reducible exact GrS.refl _ _) | (with_reducible refine GrS.drew ?_) | (with_reducible refine GrS.alloc ?_ _) | (with_reducible refine GrS.setCell ?_ (by first | exact S4.a | exact S4.b | exact S4.c | exact S4.d) _)))
                    have g27 : Gr w W27 := GrS.below g26 (fun k hk => by unfold S4 at hk; omega) y27
                    have RV7 : Row W27 bv n (fun j => .int .i64 (if j = i0 then vi - 1 else vV j)) := by
                      rw [hW27]
                      exact Row.set (k := i0) RV6.out (by show Value.int .i64 _ = _; rw [if_pos rfl]) (fun j _ hj => by
                        show Value.int .i64 _ = Value.int .i64 _
                        rw [if_neg hj])
                    have hT : Ba.SlI.At W27 ⟨TA, n2, tc, bt, 0, ST⟩ := ⟨HT6.out.hA, HT6.out.hc, HT6.out.hb, fun j hj => ⟨GrS.at y27 (show ¬ S4 bv bv bv bv bt by have hj2 : j < n2 := hj; have h := HD2.out (by omega); unfold S4; omega) (HT6.out.hX j hj).1, (HT6.out.hX j hj).2⟩⟩
                    have hU : Ba.SlB.At W27 ⟨UA, n2, uc, bu, 0, ON⟩ := ⟨HU6.out.hA, HU6.out.hc, HU6.out.hb, fun j hj => GrS.at y27 (show ¬ S4 bv bv bv bv bu by have hj2 : j < n2 := hj; have h := HD3.out (by omega); unfold S4; omega) (HU6.out.hX j hj)⟩
                    have hG2 : Ba.Ledger.Ok W27 (⟨sJ n, gO n, ⟨some ⟨P, 0, none⟩, n2, n2, P, 0, pK⟩⟩ : Ba.Ledger) := ⟨HG6.out.1, HG6.out.2.1, ⟨HG6.out.2.2.hA, HG6.out.2.2.hc, HG6.out.2.2.hb, fun j hj => ⟨GrS.at y27 (show ¬ S4 bv bv bv bv P by unfold S4; omega) (HG6.out.2.2.hX j hj).1, (HG6.out.2.2.hX j hj).2⟩⟩⟩
                    have hS3 : Ba.State.Ok W27 (⟨⟨some ⟨bv, 0, none⟩, n, vc, bv, 0, fun j => if j = i0 then vi - 1 else vV j⟩, ⟨some ⟨bw, 0, none⟩, n, qc, bw, 0, vP⟩, ⟨TA, n2, tc, bt, 0, ST⟩, ⟨UA, n2, uc, bu, 0, ON⟩⟩ : Ba.State) := ⟨⟨fun _ => rfl, hvc, hvb, fun j hj => ⟨by rw [Nat.zero_add]; exact (RV7 j hj).1, by
                      have := HVB2.out j hj
                      unfold Ba.i64
                      simp only
                      split <;> omega⟩⟩, ⟨fun _ => rfl, hqc, hqb, fun j hj => ⟨by rw [Nat.zero_add]; exact GrS.at y27 (show ¬ S4 bv bv bv bv bw by unfold S4; omega) (RW6.out j hj).1, by have := HVP6.out j hj; unfold Ba.i64; simp only; omega⟩⟩, hT, hU⟩
                    have HF := HLS.out (⟨⟨some ⟨bv, 0, none⟩, n, vc, bv, 0, fun j => if j = i0 then vi - 1 else vV j⟩, ⟨some ⟨bw, 0, none⟩, n, qc, bw, 0, vP⟩, ⟨TA, n2, tc, bt, 0, ST⟩, ⟨UA, n2, uc, bu, 0, ON⟩⟩ : Ba.State) i0 hin hne rfl rfl rfl rfl (fun j _ => by rw [hvi]) (fun _ _ => rfl) rfl rfl W27 g27 hS3 hG2
                    replace HF : Calls Try.prog 10 #[.agg #[.slice (some ⟨b, o, none⟩) n c, .slice A2 n2 c2], .agg #[.slice (some ⟨b1, o1, none⟩) n vc1, .slice (some ⟨bq, oq, none⟩) n pc1, .slice SA1 n2 sc1, .slice OA1 n2 oc1], .agg #[.slice (some ⟨bv, 0, none⟩) n vc, .slice (some ⟨bw, 0, none⟩) n qc, .slice TA n2 tc, .slice UA n2 uc], .slice (some ⟨b5, o5, none⟩) n ic, .agg #[.int .i64 (sJ n), .int .i64 (gO n), .slice (some ⟨P, 0, none⟩) n2 n2]] W27 (fun e w' => e = .returned (.tuple #[.bool false, .int .i64 1, .int .i64 0]) ∧ Gr W27 w') := HF
                    clear hT hU hG2 hS3 RV7 y27 HLS HT6 HU6 HG6 RV6 RW6 HVB2 HVP6
                    refine HF.mono ?_
                    rintro e w28 ⟨rfl, hb28⟩
                    have g28 := g27.trans hb28
                    clear HF
                    go_wp2_with fail
                    go_ret
                    exact ⟨rfl, g28⟩
                  · go_wp2_with fail
                    go_ret
                    exact ⟨rfl, g26⟩
          

end Go.Proofs.Ythkmgnaeponfcaa
