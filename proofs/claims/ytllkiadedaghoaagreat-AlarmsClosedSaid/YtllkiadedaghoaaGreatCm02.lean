/-
  A region that draws its order, of reads before one last operation that writes: the reads in the order of the text.
  And worlds in which two blocks alone have turned.
  A region that draws its order, of loads and of calls that make memory: one walk in the order of the text serves every order, if each call answers alike in every world that has grown.
  Alarms: telemetry.compare and alarms.compare. Typed.
  Alarms, plain: the order of messages and of alarms; one sorted list of contents. Typed.
-/
import Derived.Test.YtllkiadedaghoaaGreatCm01
import Derived.Deep.Quiet
import Derived.BigQuiet
import Derived.StillTail
import Derived.Sort.Grow
import Derived.Sort.Walk0
import Derived.Lib.Strings
import Derived.Shelf.SlSortCmp.NoneTotal
set_option linter.unusedVariables false
set_option linter.unusedSimpArgs false
namespace Go.Proofs.YtllkiadedaghoaaGreat
open Go.RowKit
theorem still_of_quiet {P : Program} {o : Oper} {a : Act} {W : World} {K K' : Act → Prop} (hn : ∀ a, K a → K' a) (h : o.quiet P a (fun w' => w' = W) K) : o.still P a W K' := by
  obtain ⟨v, h1, h2⟩ := h
  have h3 := h1 W rfl
  unfold Oper.quietAt at h3
  unfold Oper.still
  generalize (execOp a.eval o).run P W = r at *
  cases r with
  | halt x w' => simp only [Oper.quietUpon] at h3
  | ok n w' =>
    cases n with
    | value u =>
      simp only [Oper.quietUpon] at h3
      simp only [Oper.stillUpon]
      exact ⟨h3.1, by rw [h3.2]; exact hn _ h2⟩
    | skip =>
      simp only [Oper.quietUpon] at h3
      simp only [Oper.stillUpon]
      exact ⟨h3.1, by rw [← h3.2]; exact hn _ h2⟩
    | enter f args =>
      simp only [Oper.quietUpon] at h3
      simp only [Oper.stillUpon]
      exact ⟨h3.1, v, h3.2, hn _ h2⟩
    | _ => simp only [Oper.quietUpon] at h3
theorem wpStill_of_quiet {P : Program} {ops : Array Oper} {W : World} {Q : Act → Prop} : ∀ (l : List Oper) (a : Act), wpQuiet P ops (fun w' => w' = W) Q l a → wpStill P ops W Q l a
  | [], _, h => h
  | o :: l, a, h => by
    unfold wpQuiet at h
    unfold wpStill
    split
    · rename_i hw; rw [if_pos hw] at h; exact still_of_quiet (fun a' => wpStill_of_quiet l a') h
    · rename_i hw; rw [if_neg hw] at h; exact wpStill_of_quiet l _ h
theorem wp_region_tail {P : Program} {id : Nat} {Q : Exit → Act → World → Prop} {a : Act} {w : World} {l : List Oper} (n : Nat) (hm : P.follows .mixedOrders = true) (hB : Region.lexTailB .any l.toArray n = true)
    (h : wpQuiet P l.toArray (fun w' => w' = w.drew) (fun a' => wpList P l.toArray Q (l.drop n) a' w.drew) (l.take n) a) : (Code.region id l.toArray true).wp P Q a w :=
  wp_region_still_tail n hm hB (wpStill_of_quiet _ _ h)
/-- The world has grown; of what was there, the blocks R and M alone have turned. -/
structure GrY (R M : Nat) (w w' : World) : Prop where
  os : w'.os = w.os
  tape : w'.tape = w.tape
  output : w'.output = w.output
  size : w.heap.size ≤ w'.heap.size
  block : ∀ k, k < w.heap.size → k ≠ R → k ≠ M → w'.heap[k]? = w.heap[k]?
theorem GrY.refl (R M : Nat) (w : World) : GrY R M w w := ⟨rfl, rfl, rfl, Nat.le_refl _, fun _ _ _ _ => rfl⟩
theorem GrY.gr {R M : Nat} {a b c : World} (h : GrY R M a b) (k : Gr b c) : GrY R M a c :=
  ⟨k.os.trans h.os, k.tape.trans h.tape, k.output.trans h.output, Nat.le_trans h.size (Gr.size k), fun i hi hR hM => (Below.block k i (Nat.lt_of_lt_of_le hi h.size)).trans (h.block i hi hR hM)⟩
theorem GrY.drew {R M : Nat} {a b : World} (h : GrY R M a b) : GrY R M a b.drew := h.gr (Gr.drew (Gr.refl _))
theorem GrY.drewN {R M : Nat} {a b : World} (h : GrY R M a b) (n : Nat) : GrY R M a (b.drewN n) := h.gr (Gr.drewN (Gr.refl _) n)
theorem GrY.alloc {R M : Nat} {a b : World} (h : GrY R M a b) (o : Obj) : GrY R M a (b.alloc o) := h.gr (Gr.alloc (Gr.refl _) o)
theorem GrY.setCell {R M : Nat} {a b : World} (h : GrY R M a b) {p : Addr} (hp : p.block = R) (u : Value) : GrY R M a (b.setCell p u) := by
  subst hp
  exact ⟨h.os, h.tape, h.output, by simpa [World.setCell] using h.size, fun i hi hR hM => (Below.heap_setCell _ _ _ _ hR).trans (h.block i hi hR hM)⟩
theorem GrY.at {R M : Nat} {w w' : World} (h : GrY R M w w') {b o : Nat} {v : Value} (hR : b ≠ R) (hM : b ≠ M) (hc : w.cell? ⟨b, o, none⟩ = some v) : w'.cell? ⟨b, o, none⟩ = some v := by
  have hlt := World.block_lt_of_cell? w ⟨b, o, none⟩ hc
  rw [← hc]; exact World.cell?_of_block (w := w) (h.block b hlt hR hM)
theorem GrY.below {R M : Nat} {w W0 w' : World} (g : Gr w W0) (hR : w.heap.size ≤ R) (hM : w.heap.size ≤ M) (h : GrY R M W0 w') : Gr w w' :=
  ⟨h.os.trans g.os, h.tape.trans g.tape, h.output.trans g.output, Nat.le_trans (Gr.size g) h.size, fun k hk => (h.block k (Nat.lt_of_lt_of_le hk (Gr.size g)) (by omega) (by omega)).trans (Below.block g k hk)⟩
/-- A cell holds a value, and may be written. -/
def Own (w : World) (b o : Nat) (v : Value) : Prop := w.cell? ⟨b, o, none⟩ = some v ∧ w.frozen? ⟨b, o, none⟩ = false
theorem Own.gr {w w' : World} {b o : Nat} {v : Value} (h : Own w b o v) (g : Gr w w') : Own w' b o v := ⟨Gr.at g h.1, Gr.free g h.1 h.2⟩
theorem Own.set {w : World} {b o : Nat} {v u : Value} (h : Own w b o v) : Own (w.setCell ⟨b, o, none⟩ u) b o u :=
  ⟨World.cell?_setCell_same' _ _ _ (by rw [h.1]; rfl), by have := h.2; simpa [go_sem] using this⟩
theorem Own.other {w : World} {b o b' o' : Nat} {v u : Value} (h : Own w b o v) (hne : b ≠ b' ∨ o ≠ o') : Own (w.setCell ⟨b', o', none⟩ u) b o v :=
  ⟨by rw [World.cell?_setCell_other _ _ _ _ (fun e => by simp only [Addr.mk.injEq] at e; omega)]; exact h.1, by have := h.2; simpa [go_sem] using this⟩
end Go.Proofs.YtllkiadedaghoaaGreat
set_option linter.unusedVariables false
set_option linter.unusedSimpArgs false
namespace Go.Proofs.YtllkiadedaghoaaGreat
open Go.RowKit
/-- The worlds that have grown from W. -/
structure GW (W : World) where
  val : World
  property : Gr W val
instance (W : World) : Nonempty (GW W) := ⟨⟨W, Gr.refl W⟩⟩
theorem wp_region_gr {P : Program} {id : Nat} {Q : Exit → Act → World → Prop} {a : Act} {w : World} {l : List Oper} (hm : P.follows .mixedOrders = true) (hB : Region.lexB .any l.toArray = true)
    (h : wpQuiet P l.toArray (fun w' => ∃ x : GW w, w' = x.1) (fun a' => ∀ w', Gr w w' → Q .normal a' w') l a) : (Code.region id l.toArray true).wp P Q a w := by
  have e : (fun a' => ∀ w', Gr w w' → Q .normal a' w') = (fun a' => ∀ w', (∃ x : GW w, w' = x.1) → Q .normal a' w') := by
    funext a'
    apply propext
    constructor
    · rintro h w' ⟨x, rfl⟩; exact h _ x.2
    · intro h w' hg; exact h w' ⟨⟨w', hg⟩, rfl⟩
  rw [e] at h
  exact wp_region_quiet (C := fun w' => ∃ x : GW w, w' = x.1) hm hB ⟨⟨w.drew, Gr.drew (Gr.refl w)⟩, rfl⟩ h
theorem gw_call {P : Program} {f : FuncId} {args : Array Value} {W : World} {x : GW W} {v : Value} (h : Calls P f args x.1 fun e w' => e = .returned v ∧ Gr x.1 w') : Calls P f args x.1 fun e w'' => e = .returned v ∧ ∃ y : GW W, w'' = y.1 :=
  h.mono fun _ w' ⟨he, hg⟩ => ⟨he, ⟨w', x.2.trans hg⟩, rfl⟩
theorem gw_same {P : Program} {f : FuncId} {args : Array Value} {W : World} {x : GW W} {v : Value} (h : Calls P f args x.1 fun e w' => e = .returned v ∧ x.1 = w') : Calls P f args x.1 fun e w'' => e = .returned v ∧ ∃ y : GW W, w'' = y.1 :=
  h.mono fun _ _ ⟨he, hw⟩ => ⟨he, x, hw.symm⟩
end Go.Proofs.YtllkiadedaghoaaGreat
set_option linter.unusedVariables false
set_option linter.unusedSimpArgs false
namespace Go.Proofs.YtllkiadedaghoaaGreat
open Go.RowKit Go.Sort
attribute [local go_sem ↓] Go.wp_at_zero Go.wp_at_succ
namespace Al
/-- A message; the order of messages. -/
structure M where
  nd : ByteArray
  nu : Int
  tm : Int
  ar : Int
  lv : Int
instance M.inh : Inhabited M := ⟨⟨⟨#[]⟩, 0, 0, 0, 0⟩⟩
def M.enc (m : M) : List Value := [.string m.nd, .int .i64 m.nu, .int .i64 m.tm, .int .i64 m.ar, .int .i64 m.lv]
def mX (a b : M) : Nat → Int
  | 0 => Lib.compareInt a.tm b.tm
  | 1 => cmpS a.nd b.nd
  | _ => Lib.compareInt a.nu b.nu
def mcmp (a b : M) : Int := fstE (mX a b) 3
/-- An alarm with its numbers; the order of alarms. -/
structure A where
  kd : Int
  nd : ByteArray
  tm : Int
  p : Option Addr
  b : Nat
  o : Nat
  n : Nat
  c : Nat
  X : Nat → Int
instance A.inh : Inhabited A := ⟨⟨0, ⟨#[]⟩, 0, none, 0, 0, 0, 0, fun _ => 0⟩⟩
def A.enc (a : A) : List Value := [.int .i64 a.kd, .string a.nd, .int .i64 a.tm, .slice a.p a.n a.c]
structure A.At (a : A) (w : World) : Prop where
  hn : a.n ≤ 9223372036854775807
  hp : 0 < a.n → a.p = some ⟨a.b, a.o, none⟩
  hX : ∀ i, i < a.n → w.cell? ⟨a.b, a.o + i, none⟩ = some (.int .i64 (a.X i))
theorem A.At.gr {a : A} {w w' : World} (h : a.At w) (g : Gr w w') : a.At w' := ⟨h.hn, h.hp, fun i hi => Gr.at g (h.hX i hi)⟩
def aX (a b : A) : Nat → Int
  | 0 => Lib.compareInt a.tm b.tm
  | 1 => cmpS a.nd b.nd
  | 2 => Lib.compareInt a.kd b.kd
  | _ => cmpL (lst a.X a.n) (lst b.X b.n)
def acmp (a b : A) : Int := fstE (aX a b) 4
end Al
set_option maxRecDepth 100000 in
set_option maxHeartbeats 4000000 in
theorem mcmp_any (a b : Al.M) (w : World) : Calls Tryz.prog 129 #[.agg a.enc.toArray, .agg b.enc.toArray] w fun e w' => e = .returned (.int .i64 (Al.mcmp a b)) ∧ ∃ q os, w' = grow (w.drewN q) os := by
  have HC := Lib.hid (fun x y W => Tryz.cmp_Compare_int x y W)
  have HS := Lib.hid (fun x y W => cmpS_any x y W)
  have HO := Lib.hid (fun (B c : Nat) (W : World) (h0 : W.cell? ⟨B, 0, none⟩ = some (.int .i64 (Al.mX a b 0))) (h1 : W.cell? ⟨B, 1, none⟩ = some (.int .i64 (Al.mX a b 1))) (h2 : W.cell? ⟨B, 2, none⟩ = some (.int .i64 (Al.mX a b 2))) => or_any B 3 c (Al.mX a b) W (by omega) (fun i hi => by
    match i, hi with
    | 0, _ => exact h0
    | 1, _ => exact h1
    | 2, _ => exact h2))
  change Calls _ _ _ _ (fun e w' => e = .returned (.int .i64 (Al.fstE (Al.mX a b) 3)) ∧ _)
  generalize Al.fstE (Al.mX a b) 3 = r at *
  rw [show Al.mX a b 0 = Lib.compareInt a.tm b.tm from rfl, show Al.mX a b 1 = Al.cmpS a.nd b.nd from rfl, show Al.mX a b 2 = Lib.compareInt a.nu b.nu from rfl] at HO
  cases a with | mk an au at_ aa al => cases b with | mk bn bu bt ba bl =>
  unfold Al.M.enc
  go_enter Tryz.func129, Tryz.ntmps129
  go_wp2_with fail
  refine wp_region_tail 15 (by kernel_rfl) (by kernel_rfl) ?_
  simp only [List.take_succ_cons, List.take_zero, List.drop_succ_cons, List.drop_zero]
  repeat (first | go_big_quiet_skip | (go_big_quiet_want; go_big_quiet_op; first | go_big_quiet_on | (apply Exists.intro; refine ⟨?_, ?_⟩; (first | (go_at_call 99; exact HC.out _ _ _) | (go_at_call 100; exact HS.out _ _ _)); go_big_quiet_on)))
  refine wpQuiet_nil ?_
  go_wp2_with fail
  refine (HO.out _ _ _ (by simp [go_sem, *]) (by simp [go_sem, *]) (by simp [go_sem, *])).mono ?_
  rintro e w1 ⟨rfl, rfl⟩
  go_wp2_with fail
  go_ret
  exact ⟨rfl, 1, _, by rw [alloc_eq_grow, alloc_eq_grow, alloc_eq_grow, grow_grow, grow_grow]; rfl⟩
set_option maxRecDepth 100000 in
set_option maxHeartbeats 4000000 in
theorem acmp_any (a b : Al.A) (w : World) (ha : a.At w) (hb : b.At w) : Calls Tryz.prog 72 #[.agg a.enc.toArray, .agg b.enc.toArray] w fun e w' => e = .returned (.int .i64 (Al.acmp a b)) ∧ ∃ q os, w' = grow (w.drewN q) os := by
  have HC := Lib.hid (fun x y W => Tryz.cmp_Compare_int x y W)
  have HS := Lib.hid (fun x y W => cmpS_any x y W)
  have HL := Lib.hid (fun W (hW : Gr w W) => cmpL_any a.p b.p a.n a.c b.n b.c a.b b.b a.o b.o a.X b.X W ha.hn hb.hn ha.hp (ha.gr hW).hX hb.hp (hb.gr hW).hX)
  have HO := Lib.hid (fun (B c : Nat) (W : World) (h0 : W.cell? ⟨B, 0, none⟩ = some (.int .i64 (Al.aX a b 0))) (h1 : W.cell? ⟨B, 1, none⟩ = some (.int .i64 (Al.aX a b 1))) (h2 : W.cell? ⟨B, 2, none⟩ = some (.int .i64 (Al.aX a b 2))) (h3 : W.cell? ⟨B, 3, none⟩ = some (.int .i64 (Al.aX a b 3))) => or_any B 4 c (Al.aX a b) W (by omega) (fun i hi => by
    match i, hi with
    | 0, _ => exact h0
    | 1, _ => exact h1
    | 2, _ => exact h2
    | 3, _ => exact h3))
  change Calls _ _ _ _ (fun e w' => e = .returned (.int .i64 (Al.fstE (Al.aX a b) 4)) ∧ _)
  generalize Al.fstE (Al.aX a b) 4 = r at *
  rw [show Al.aX a b 0 = Lib.compareInt a.tm b.tm from rfl, show Al.aX a b 1 = Al.cmpS a.nd b.nd from rfl, show Al.aX a b 2 = Lib.compareInt a.kd b.kd from rfl, show Al.aX a b 3 = Al.cmpL (Al.lst a.X a.n) (Al.lst b.X b.n) from rfl] at HO
  clear ha hb
  generalize Al.cmpL (Al.lst a.X a.n) (Al.lst b.X b.n) = c3 at *
  unfold Al.A.enc
  cases a with | mk ak an at_ ap ab ao az ac aX => cases b with | mk bk bn bt bp bb bo bz bc bX =>
  simp only [] at *
  go_enter Tryz.func72, Tryz.ntmps72
  go_wp2_with fail
  refine wp_region_tail 20 (by kernel_rfl) (by kernel_rfl) ?_
  simp only [List.take_succ_cons, List.take_zero, List.drop_succ_cons, List.drop_zero]
  repeat (first | go_big_quiet_skip | (go_big_quiet_want; go_big_quiet_op; first | go_big_quiet_on | (apply Exists.intro; refine ⟨?_, ?_⟩; (first | (go_at_call 99; exact HC.out _ _ _) | (go_at_call 100; exact HS.out _ _ _) | (go_at_call 101; exact HL.out _ gr_auto)); go_big_quiet_on)))
  refine wpQuiet_nil ?_
  clear HL HC HS
  go_wp2_with fail
  refine (HO.out _ _ _ (by simp [go_sem, *]) (by simp [go_sem, *]) (by simp [go_sem, *]) (by simp [go_sem, *])).mono ?_
  rintro e w1 ⟨rfl, rfl⟩
  go_wp2_with fail
  go_ret
  exact ⟨rfl, 1, _, by rw [alloc_eq_grow, alloc_eq_grow, alloc_eq_grow, grow_grow, grow_grow]; rfl⟩
end Go.Proofs.YtllkiadedaghoaaGreat
set_option linter.unusedVariables false
set_option linter.unusedSimpArgs false
namespace Go.Proofs.YtllkiadedaghoaaGreat
open Go.RowKit Go.Sort
namespace Al
/-- A comparison that is a total order. -/
structure Gd {α : Type} (f : α → α → Int) : Prop where
  self : ∀ a, f a a = 0
  zero : ∀ a b, f a b = 0 → a = b
  neg : ∀ a b, f a b < 0 → 0 < f b a
  pos : ∀ a b, 0 < f a b → f b a < 0
  tr : ∀ a b c, f a b < 0 → f b c < 0 → f a c < 0
theorem Gd.int : Gd Lib.compareInt := by
  constructor
  all_goals intros
  all_goals simp only [Lib.compareInt] at *
  all_goals (repeat' split at *)
  all_goals omega
theorem tl_inj {a b : ByteArray} (h : a.toList = b.toList) : a = b := by
  rw [Lib.toList_data, Lib.toList_data] at h
  exact ByteArray.ext (Array.toList_inj.1 h)
theorem cmpS_lt {a b : ByteArray} : cmpS a b < 0 ↔ a.toList < b.toList := by
  unfold cmpS
  rw [Go.Proofs.bytesLess_eq]
  by_cases h : a.toList < b.toList
  · simp [h]
  · simp only [h, decide_false, Bool.false_eq_true, if_false, iff_false]
    split <;> omega
theorem cmpS_gt {a b : ByteArray} : 0 < cmpS a b ↔ b.toList < a.toList := by
  unfold cmpS
  rw [Go.Proofs.bytesLess_eq]
  by_cases h : a.toList < b.toList
  · simp only [h, decide_true, if_true]
    exact ⟨fun x => by omega, fun x => absurd (List.lt_trans h x) (List.lt_irrefl _)⟩
  · by_cases e : a.toList = b.toList
    · simp [e, List.lt_irrefl]
    · simp only [h, decide_false, Bool.false_eq_true, if_false, beq_iff_eq, e]
      refine ⟨fun _ => ?_, fun _ => by omega⟩
      by_cases h2 : b.toList < a.toList
      · exact h2
      · exact absurd (List.le_antisymm (List.not_lt.1 h2) (List.not_lt.1 h)) e
theorem Gd.str : Gd cmpS where
  self a := by unfold cmpS; rw [Go.Proofs.bytesLess_eq]; simp [List.lt_irrefl]
  zero a b h := by
    by_cases e : a.toList = b.toList
    · exact tl_inj e
    · unfold cmpS at h
      rw [show (a.toList == b.toList) = false from beq_eq_false_iff_ne.2 e] at h
      split at h <;> simp at h
  neg a b h := cmpS_gt.2 (cmpS_lt.1 h)
  pos a b h := cmpS_lt.2 (cmpS_gt.1 h)
  tr a b c h1 h2 := cmpS_lt.2 (List.lt_trans (cmpS_lt.1 h1) (cmpS_lt.1 h2))
theorem cmpL_self : ∀ a : List Int, cmpL a a = 0
  | [] => rfl
  | x :: a => by rw [cmpL, if_pos (cmp_zero.2 rfl)]; exact cmpL_self a
theorem cmpL_zero : ∀ a b : List Int, cmpL a b = 0 → a = b
  | [], [], _ => rfl
  | [], _ :: _, h => by simp [cmpL] at h
  | _ :: _, [], h => by simp [cmpL] at h
  | x :: a, y :: b, h => by
    rw [cmpL] at h
    split at h
    · rename_i e; rw [cmp_zero.1 e, cmpL_zero a b h]
    · rename_i e; exact absurd h e
theorem cmpL_neg : ∀ a b : List Int, cmpL a b < 0 → 0 < cmpL b a
  | [], [], h => by simp [cmpL] at h
  | [], _ :: _, _ => by simp [cmpL]
  | _ :: _, [], h => by simp [cmpL] at h
  | x :: a, y :: b, h => by
    rw [cmpL] at h ⊢
    split at h
    · rename_i e; obtain rfl := cmp_zero.1 e; rw [if_pos e]; exact cmpL_neg a b h
    · rename_i e
      have := Gd.int.neg _ _ h
      rw [if_neg (by omega)]; exact this
theorem cmpL_pos : ∀ a b : List Int, 0 < cmpL a b → cmpL b a < 0
  | [], [], h => by simp [cmpL] at h
  | [], _ :: _, h => by simp [cmpL] at h
  | _ :: _, [], _ => by simp [cmpL]
  | x :: a, y :: b, h => by
    rw [cmpL] at h ⊢
    split at h
    · rename_i e; obtain rfl := cmp_zero.1 e; rw [if_pos e]; exact cmpL_pos a b h
    · rename_i e
      have := Gd.int.pos _ _ h
      rw [if_neg (by omega)]; exact this
theorem cmpL_tr : ∀ a b c : List Int, cmpL a b < 0 → cmpL b c < 0 → cmpL a c < 0
  | [], [], _, h, _ => by simp [cmpL] at h
  | [], _ :: _, [], _, h => by simp [cmpL] at h
  | [], _ :: _, _ :: _, _, _ => by simp [cmpL]
  | _ :: _, [], _, h, _ => by simp [cmpL] at h
  | _ :: _, _ :: _, [], _, h => by simp [cmpL] at h
  | x :: a, y :: b, z :: c, h, k => by
    rw [cmpL] at h k ⊢
    split at h
    · rename_i e
      obtain rfl := cmp_zero.1 e
      split at k
      · rename_i e2; rw [if_pos e2]; exact cmpL_tr a b c h k
      · rename_i e2; rw [if_neg e2]; exact k
    · split at k
      · rename_i e e2; obtain rfl := cmp_zero.1 e2; rw [if_neg e]; exact h
      · have := Gd.int.tr _ _ _ h k
        rw [if_neg (by omega)]; exact this
theorem Gd.lst : Gd cmpL := ⟨cmpL_self, cmpL_zero, cmpL_neg, cmpL_pos, cmpL_tr⟩
/-- One comparison, and where it is 0 another one. -/
def thn (x y : Int) : Int := if x = 0 then y else x
theorem fst3 (f : Nat → Int) : fstE f 3 = thn (f 0) (thn (f 1) (f 2)) := by
  simp only [fstE, thn, if_true]
  (repeat' split) <;> simp_all
theorem fst4 (f : Nat → Int) : fstE f 4 = thn (f 0) (thn (f 1) (thn (f 2) (f 3))) := by
  rw [show fstE f 4 = if fstE f 3 = 0 then f 3 else fstE f 3 from rfl, fst3]
  simp only [thn]
  (repeat' split) <;> simp_all
theorem Gd.thn {α β γ : Type} {f : β → β → Int} {g : γ → γ → Int} (hf : Gd f) (hg : Gd g) (p : α → β) (q : α → γ) (hi : ∀ a b, p a = p b → q a = q b → a = b) : Gd (fun a b => Al.thn (f (p a) (p b)) (g (q a) (q b))) where
  self a := by simp [Al.thn, hf.self, hg.self]
  zero a b h := by
    simp only [Al.thn] at h
    split at h
    · rename_i e; exact hi a b (hf.zero _ _ e) (hg.zero _ _ h)
    · rename_i e; exact absurd h e
  neg a b h := by
    simp only [Al.thn] at h ⊢
    split at h
    · rename_i e; rw [hf.zero _ _ e, hf.self, if_pos rfl]; exact hg.neg _ _ h
    · have := hf.neg _ _ h; rw [if_neg (by omega)]; exact this
  pos a b h := by
    simp only [Al.thn] at h ⊢
    split at h
    · rename_i e; rw [hf.zero _ _ e, hf.self, if_pos rfl]; exact hg.pos _ _ h
    · have := hf.pos _ _ h; rw [if_neg (by omega)]; exact this
  tr a b c h k := by
    simp only [Al.thn] at h k ⊢
    split at h
    · rename_i e
      rw [hf.zero _ _ e]
      split at k
      · rename_i e2; rw [if_pos e2]; exact hg.tr _ _ _ h k
      · rename_i e2; rw [if_neg e2]; exact k
    · split at k
      · rename_i e e2; rw [← hf.zero _ _ e2, if_neg e]; exact h
      · have := hf.tr _ _ _ h k; rw [if_neg (by omega)]; exact this
/-- The content of an alarm; the order of contents. -/
structure C where
  kd : Int
  nd : ByteArray
  tm : Int
  bc : List Int
instance C.inh : Inhabited C := ⟨⟨0, ⟨#[]⟩, 0, []⟩⟩
def A.con (a : A) : C := ⟨a.kd, a.nd, a.tm, Al.lst a.X a.n⟩
def ccmp (a b : C) : Int := thn (Lib.compareInt a.tm b.tm) (thn (cmpS a.nd b.nd) (thn (Lib.compareInt a.kd b.kd) (cmpL a.bc b.bc)))
theorem acmp_con (a b : A) : acmp a b = ccmp a.con b.con := by
  unfold acmp
  rw [fst4]
  rfl
theorem Gd.con : Gd ccmp := by
  have h3 := Gd.thn (α := Int × List Int) Gd.int Gd.lst (fun a => a.1) (fun a => a.2) (fun a b h1 h2 => Prod.ext h1 h2)
  have h2 := Gd.thn (α := ByteArray × Int × List Int) Gd.str h3 (fun a => a.1) (fun a => a.2) (fun a b h1 h2 => Prod.ext h1 h2)
  exact Gd.thn (α := C) Gd.int h2 (fun a => a.tm) (fun a => (a.nd, a.kd, a.bc)) (fun a b h1 h2 => by
    cases a; cases b; simp only [Prod.mk.injEq] at h1 h2; obtain ⟨h3, h4, h5⟩ := h2; subst h1; subst h3; subst h4; subst h5; rfl)
/-- A message's place in the order (its arrival and its level do not count). -/
def M.key (m : M) : Int × ByteArray × Int := (m.tm, m.nd, m.nu)
def kcmp (a b : Int × ByteArray × Int) : Int := thn (Lib.compareInt a.1 b.1) (thn (cmpS a.2.1 b.2.1) (Lib.compareInt a.2.2 b.2.2))
theorem mcmp_key (a b : M) : mcmp a b = kcmp a.key b.key := by
  unfold mcmp
  rw [fst3]
  rfl
theorem Gd.key : Gd kcmp := by
  have h2 := Gd.thn (α := ByteArray × Int) Gd.str Gd.int (fun a => a.1) (fun a => a.2) (fun a b h1 h2 => Prod.ext h1 h2)
  exact Gd.thn (α := Int × ByteArray × Int) Gd.int h2 (fun a => a.1) (fun a => a.2) (fun a b h1 h2 => Prod.ext h1 h2)
/-- Behind a total order: what slices.SortFunc asks. -/
theorem Gd.swo {α β : Type} {f : β → β → Int} (h : Gd f) (p : α → β) : SWO (ltOf fun a b => f (p a) (p b)) where
  irrefl x := by simp [ltOf, h.self]
  trans x y z h1 h2 := by simp only [ltOf, decide_eq_true_eq] at *; exact h.tr _ _ _ h1 h2
  ntrans x y z h1 h2 := by
    simp only [ltOf, decide_eq_false_iff_not, Int.not_lt] at *
    rcases Int.lt_or_eq_of_le h1 with a | a
    · rcases Int.lt_or_eq_of_le h2 with b | b
      · exact Int.le_of_lt (h.neg _ _ (h.tr _ _ _ (h.pos _ _ b) (h.pos _ _ a)))
      · rw [← h.zero _ _ b.symm]; exact Int.le_of_lt a
    · rw [h.zero _ _ a.symm]; exact h2
/-- There is one sorted list of what is in a total order. -/
theorem Gd.uniq {β : Type} {f : β → β → Int} (h : Gd f) {l l' : List β} (hp : l.Perm l') (h1 : l.Pairwise fun a b => f a b ≤ 0) (h2 : l'.Pairwise fun a b => f a b ≤ 0) : l = l' := by
  refine List.Perm.eq_of_pairwise (le := fun a b => f a b ≤ 0) ?_ h1 h2 hp
  intro a b _ _ x y
  rcases Int.lt_or_eq_of_le x with z | z
  · have := h.neg _ _ z; omega
  · exact h.zero _ _ z
end Al
end Go.Proofs.YtllkiadedaghoaaGreat
