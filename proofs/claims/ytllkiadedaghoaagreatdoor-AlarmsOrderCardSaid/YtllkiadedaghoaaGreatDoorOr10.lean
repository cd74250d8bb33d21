/-
  A region that draws its order, of reads before one last operation that writes: the reads in the order of the text.
  And worlds in which two blocks alone have turned.
  A region that draws its order, of loads and of calls that make memory: one walk in the order of the text serves every order, if each call answers alike in every world that has grown.
  Alarms: telemetry.compare and alarms.compare. Typed.
  slices.IndexFunc and slices.ContainsFunc, whatever the closure: the first element that has a property.
-/
import Derived.Test.YtllkiadedaghoaaGreatDoorOr01
import Derived.Test.YtllkiadedaghoaaGreatDoorOr09
import Derived.Deep.Quiet
import Derived.BigQuiet
import Derived.StillTail
import Derived.Sort.Grow
set_option linter.unusedVariables false
set_option linter.unusedSimpArgs false
namespace Go.Proofs.YtllkiadedaghoaaGreatDoor
open Go.RowKit
theorem still_of_quiet {P : Program} {o : Oper} {a : Act} {W : World} {K K' : Act → Prop} (hn : ∀ a, K a → K' a) (h : o.quiet P a (fun w' => w' = W) K) : o.still P a W K' := by
  obtain ⟨v, h1, h2⟩ := h
  have h3 := h1 W rfl
  unfold Oper.quietAt at h3
  unfold Oper.still
  generalize (execOp a.eval o).run P W = r at *
  cases r with
  | halt x w' => simp only [Oper.quietUpon] at h3
  | ok n w' =>
    cases n with
    | value u =>
      simp only [Oper.quietUpon] at h3
      simp only [Oper.stillUpon]
      exact ⟨h3.1, by rw [h3.2]; exact hn _ h2⟩
    | skip =>
      simp only [Oper.quietUpon] at h3
      simp only [Oper.stillUpon]
      exact ⟨h3.1, by rw [← h3.2]; exact hn _ h2⟩
    | enter f args =>
      simp only [Oper.quietUpon] at h3
      simp only [Oper.stillUpon]
      exact ⟨h3.1, v, h3.2, hn _ h2⟩
    | _ => simp only [Oper.quietUpon] at h3
theorem wpStill_of_quiet {P : Program} {ops : Array Oper} {W : World} {Q : Act → Prop} : ∀ (l : List Oper) (a : Act), wpQuiet P ops (fun w' => w' = W) Q l a → wpStill P ops W Q l a
  | [], _, h => h
  | o :: l, a, h => by
    unfold wpQuiet at h
    unfold wpStill
    split
    · rename_i hw; rw [if_pos hw] at h; exact still_of_quiet (fun a' => wpStill_of_quiet l a') h
    · rename_i hw; rw [if_neg hw] at h; exact wpStill_of_quiet l _ h
theorem wp_region_tail {P : Program} {id : Nat} {Q : Exit → Act → World → Prop} {a : Act} {w : World} {l : List Oper} (n : Nat) (hm : P.follows .mixedOrders = true) (hB : Region.lexTailB .any l.toArray n = true)
    (h : wpQuiet P l.toArray (fun w' => w' = w.drew) (fun a' => wpList P l.toArray Q (l.drop n) a' w.drew) (l.take n) a) : (Code.region id l.toArray true).wp P Q a w :=
  wp_region_still_tail n hm hB (wpStill_of_quiet _ _ h)
/-- The world has grown; of what was there, the blocks R and M alone have turned. -/
structure GrY (R M : Nat) (w w' : World) : Prop where
  os : w'.os = w.os
  tape : w'.tape = w.tape
  output : w'.output = w.output
  size : w.heap.size ≤ w'.heap.size
  block : ∀ k, k < w.heap.size → k ≠ R → k ≠ M → w'.heap[k]? = w.heap[k]?
theorem GrY.refl (R M : Nat) (w : World) : GrY R M w w := ⟨rfl, rfl, rfl, Nat.le_refl _, fun _ _ _ _ => rfl⟩
theorem GrY.gr {R M : Nat} {a b c : World} (h : GrY R M a b) (k : Gr b c) : GrY R M a c :=
  ⟨k.os.trans h.os, k.tape.trans h.tape, k.output.trans h.output, Nat.le_trans h.size (Gr.size k), fun i hi hR hM => (Below.block k i (Nat.lt_of_lt_of_le hi h.size)).trans (h.block i hi hR hM)⟩
theorem GrY.drew {R M : Nat} {a b : World} (h : GrY R M a b) : GrY R M a b.drew := h.gr (Gr.drew (Gr.refl _))
theorem GrY.drewN {R M : Nat} {a b : World} (h : GrY R M a b) (n : Nat) : GrY R M a (b.drewN n) := h.gr (Gr.drewN (Gr.refl _) n)
theorem GrY.alloc {R M : Nat} {a b : World} (h : GrY R M a b) (o : Obj) : GrY R M a (b.alloc o) := h.gr (Gr.alloc (Gr.refl _) o)
theorem GrY.setCell {R M : Nat} {a b : World} (h : GrY R M a b) {p : Addr} (hp : p.block = R) (u : Value) : GrY R M a (b.setCell p u) := by
  subst hp
  exact ⟨h.os, h.tape, h.output, by simpa [World.setCell] using h.size, fun i hi hR hM => (Below.heap_setCell _ _ _ _ hR).trans (h.block i hi hR hM)⟩
theorem GrY.at {R M : Nat} {w w' : World} (h : GrY R M w w') {b o : Nat} {v : Value} (hR : b ≠ R) (hM : b ≠ M) (hc : w.cell? ⟨b, o, none⟩ = some v) : w'.cell? ⟨b, o, none⟩ = some v := by
  have hlt := World.block_lt_of_cell? w ⟨b, o, none⟩ hc
  rw [← hc]; exact World.cell?_of_block (w := w) (h.block b hlt hR hM)
theorem GrY.below {R M : Nat} {w W0 w' : World} (g : Gr w W0) (hR : w.heap.size ≤ R) (hM : w.heap.size ≤ M) (h : GrY R M W0 w') : Gr w w' :=
  ⟨h.os.trans g.os, h.tape.trans g.tape, h.output.trans g.output, Nat.le_trans (Gr.size g) h.size, fun k hk => (h.block k (Nat.lt_of_lt_of_le hk (Gr.size g)) (by omega) (by omega)).trans (Below.block g k hk)⟩
/-- A cell holds a value, and may be written. -/
def Own (w : World) (b o : Nat) (v : Value) : Prop := w.cell? ⟨b, o, none⟩ = some v ∧ w.frozen? ⟨b, o, none⟩ = false
theorem Own.gr {w w' : World} {b o : Nat} {v : Value} (h : Own w b o v) (g : Gr w w') : Own w' b o v := ⟨Gr.at g h.1, Gr.free g h.1 h.2⟩
theorem Own.set {w : World} {b o : Nat} {v u : Value} (h : Own w b o v) : Own (w.setCell ⟨b, o, none⟩ u) b o u :=
  ⟨World.cell?_setCell_same' _ _ _ (by rw [h.1]; rfl), by have := h.2; simpa [go_sem] using this⟩
theorem Own.other {w : World} {b o b' o' : Nat} {v u : Value} (h : Own w b o v) (hne : b ≠ b' ∨ o ≠ o') : Own (w.setCell ⟨b', o', none⟩ u) b o v :=
  ⟨by rw [World.cell?_setCell_other _ _ _ _ (fun e => by simp only [Addr.mk.injEq] at e; omega)]; exact h.1, by have := h.2; simpa [go_sem] using this⟩
end Go.Proofs.YtllkiadedaghoaaGreatDoor
set_option linter.unusedVariables false
set_option linter.unusedSimpArgs false
namespace Go.Proofs.YtllkiadedaghoaaGreatDoor
open Go.RowKit
/-- The worlds that have grown from W. -/
structure GW (W : World) where
  val : World
  property : Gr W val
instance (W : World) : Nonempty (GW W) := ⟨⟨W, Gr.refl W⟩⟩
theorem wp_region_gr {P : Program} {id : Nat} {Q : Exit → Act → World → Prop} {a : Act} {w : World} {l : List Oper} (hm : P.follows .mixedOrders = true) (hB : Region.lexB .any l.toArray = true)
    (h : wpQuiet P l.toArray (fun w' => ∃ x : GW w, w' = x.1) (fun a' => ∀ w', Gr w w' → Q .normal a' w') l a) : (Code.region id l.toArray true).wp P Q a w := by
  have e : (fun a' => ∀ w', Gr w w' → Q .normal a' w') = (fun a' => ∀ w', (∃ x : GW w, w' = x.1) → Q .normal a' w') := by
    funext a'
    apply propext
    constructor
    · rintro h w' ⟨x, rfl⟩; exact h _ x.2
    · intro h w' hg; exact h w' ⟨⟨w', hg⟩, rfl⟩
  rw [e] at h
  exact wp_region_quiet (C := fun w' => ∃ x : GW w, w' = x.1) hm hB ⟨⟨w.drew, Gr.drew (Gr.refl w)⟩, rfl⟩ h
theorem gw_call {P : Program} {f : FuncId} {args : Array Value} {W : World} {x : GW W} {v : Value} (h : Calls P f args x.1 fun e w' => e = .returned v ∧ Gr x.1 w') : Calls P f args x.1 fun e w'' => e = .returned v ∧ ∃ y : GW W, w'' = y.1 :=
  h.mono fun _ w' ⟨he, hg⟩ => ⟨he, ⟨w', x.2.trans hg⟩, rfl⟩
end Go.Proofs.YtllkiadedaghoaaGreatDoor
set_option linter.unusedVariables false
set_option linter.unusedSimpArgs false
namespace Go.Proofs.YtllkiadedaghoaaGreatDoor
open Go.RowKit Go.Sort
attribute [local go_sem ↓] Go.wp_at_zero Go.wp_at_succ
namespace Al
/-- A message; the order of messages. -/
structure M where
  nd : ByteArray
  nu : Int
  tm : Int
  ar : Int
  lv : Int
instance M.inh : Inhabited M := ⟨⟨⟨#[]⟩, 0, 0, 0, 0⟩⟩
def M.enc (m : M) : List Value := [.string m.nd, .int .i64 m.nu, .int .i64 m.tm, .int .i64 m.ar, .int .i64 m.lv]
def mX (a b : M) : Nat → Int
  | 0 => Lib.compareInt a.tm b.tm
  | 1 => cmpS a.nd b.nd
  | _ => Lib.compareInt a.nu b.nu
def mcmp (a b : M) : Int := fstE (mX a b) 3
/-- An alarm with its numbers; the order of alarms. -/
structure A where
  kd : Int
  nd : ByteArray
  tm : Int
  p : Option Addr
  b : Nat
  o : Nat
  n : Nat
  c : Nat
  X : Nat → Int
instance A.inh : Inhabited A := ⟨⟨0, ⟨#[]⟩, 0, none, 0, 0, 0, 0, fun _ => 0⟩⟩
def A.enc (a : A) : List Value := [.int .i64 a.kd, .string a.nd, .int .i64 a.tm, .slice a.p a.n a.c]
structure A.At (a : A) (w : World) : Prop where
  hn : a.n ≤ 9223372036854775807
  hp : 0 < a.n → a.p = some ⟨a.b, a.o, none⟩
  hX : ∀ i, i < a.n → w.cell? ⟨a.b, a.o + i, none⟩ = some (.int .i64 (a.X i))
theorem A.At.gr {a : A} {w w' : World} (h : a.At w) (g : Gr w w') : a.At w' := ⟨h.hn, h.hp, fun i hi => Gr.at g (h.hX i hi)⟩
def aX (a b : A) : Nat → Int
  | 0 => Lib.compareInt a.tm b.tm
  | 1 => cmpS a.nd b.nd
  | 2 => Lib.compareInt a.kd b.kd
  | _ => cmpL (lst a.X a.n) (lst b.X b.n)
def acmp (a b : A) : Int := fstE (aX a b) 4
end Al
set_option maxRecDepth 100000 in
set_option maxHeartbeats 4000000 in
theorem mcmp_any (a b : Al.M) (w : World) : Calls Tryz.prog 190 #[.agg a.enc.toArray, .agg b.enc.toArray] w fun e w' => e = .returned (.int .i64 (Al.mcmp a b)) ∧ ∃ q os, w' = grow (w.drewN q) os := by
  have HC := Lib.hid (fun x y W => Tryz.cmp_Compare_int x y W)
  have HS := Lib.hid (fun x y W => cmpS_any x y W)
  have HO := Lib.hid (fun (B c : Nat) (W : World) (h0 : W.cell? ⟨B, 0, none⟩ = some (.int .i64 (Al.mX a b 0))) (h1 : W.cell? ⟨B, 1, none⟩ = some (.int .i64 (Al.mX a b 1))) (h2 : W.cell? ⟨B, 2, none⟩ = some (.int .i64 (Al.mX a b 2))) => or_any B 3 c (Al.mX a b) W (by omega) (fun i hi => by
    match i, hi with
    | 0, _ => exact h0
    | 1, _ => exact h1
    | 2, _ => exact h2))
  change Calls _ _ _ _ (fun e w' => e = .returned (.int .i64 (Al.fstE (Al.mX a b) 3)) ∧ _)
  generalize Al.fstE (Al.mX a b) 3 = r at *
  rw [show Al.mX a b 0 = Lib.compareInt a.tm b.tm from rfl, show Al.mX a b 1 = Al.cmpS a.nd b.nd from rfl, show Al.mX a b 2 = Lib.compareInt a.nu b.nu from rfl] at HO
  cases a with | mk an au at_ aa al => cases b with | mk bn bu bt ba bl =>
  unfold Al.M.enc
  go_enter Tryz.func190, Tryz.ntmps190
  go_wp2_with fail
  refine wp_region_tail 15 (by kernel_rfl) (by kernel_rfl) ?_
  simp only [List.take_succ_cons, List.take_zero, List.drop_succ_cons, List.drop_zero]
  repeat (first | go_big_quiet_skip | (go_big_quiet_want; go_big_quiet_op; first | go_big_quiet_on | (apply Exists.intro; refine ⟨?_, ?_⟩; (first | (go_at_call 74; exact HC.out _ _ _) | (go_at_call 75; exact HS.out _ _ _)); go_big_quiet_on)))
  refine wpQuiet_nil ?_
  go_wp2_with fail
  refine (HO.out _ _ _ (by simp [go_sem, *]) (by simp [go_sem, *]) (by simp [go_sem, *])).mono ?_
  rintro e w1 ⟨rfl, rfl⟩
  go_wp2_with fail
  go_ret
  exact ⟨rfl, 1, _, by rw [alloc_eq_grow, alloc_eq_grow, alloc_eq_grow, grow_grow, grow_grow]; rfl⟩
set_option maxRecDepth 100000 in
set_option maxHeartbeats 4000000 in
theorem acmp_any (a b : Al.A) (w : World) (ha : a.At w) (hb : b.At w) : Calls Tryz.prog 35 #[.agg a.enc.toArray, .agg b.enc.toArray] w fun e w' => e = .returned (.int .i64 (Al.acmp a b)) ∧ ∃ q os, w' = grow (w.drewN q) os := by
  have HC := Lib.hid (fun x y W => Tryz.cmp_Compare_int x y W)
  have HS := Lib.hid (fun x y W => cmpS_any x y W)
  have HL := Lib.hid (fun W (hW : Gr w W) => cmpL_any a.p b.p a.n a.c b.n b.c a.b b.b a.o b.o a.X b.X W ha.hn hb.hn ha.hp (ha.gr hW).hX hb.hp (hb.gr hW).hX)
  have HO := Lib.hid (fun (B c : Nat) (W : World) (h0 : W.cell? ⟨B, 0, none⟩ = some (.int .i64 (Al.aX a b 0))) (h1 : W.cell? ⟨B, 1, none⟩ = some (.int .i64 (Al.aX a b 1))) (h2 : W.cell? ⟨B, 2, none⟩ = some (.int .i64 (Al.aX a b 2))) (h3 : W.cell? ⟨B, 3, none⟩ = some (.int .i64 (Al.aX a b 3))) => or_any B 4 c (Al.aX a b) W (by omega) (fun i hi => by
    match i, hi with
    | 0, _ => exact h0
    | 1, _ => exact h1
    | 2, _ => exact h2
    | 3, _ => exact h3))
  change Calls _ _ _ _ (fun e w' => e = .returned (.int .i64 (Al.fstE (Al.aX a b) 4)) ∧ _)
  generalize Al.fstE (Al.aX a b) 4 = r at *
  rw [show Al.aX a b 0 = Lib.compareInt a.tm b.tm from rfl, show Al.aX a b 1 = Al.cmpS a.nd b.nd from rfl, show Al.aX a b 2 = Lib.compareInt a.kd b.kd from rfl, show Al.aX a b 3 = Al.cmpL (Al.lst a.X a.n) (Al.lst b.X b.n) from rfl] at HO
  clear ha hb
  generalize Al.cmpL (Al.lst a.X a.n) (Al.lst b.X b.n) = c3 at *
  unfold Al.A.enc
  cases a with | mk ak an at_ ap ab ao az ac aX => cases b with | mk bk bn bt bp bb bo bz bc bX =>
  simp only [] at *
  go_enter Tryz.func35, Tryz.ntmps35
  go_wp2_with fail
  refine wp_region_tail 20 (by kernel_rfl) (by kernel_rfl) ?_
  simp only [List.take_succ_cons, List.take_zero, List.drop_succ_cons, List.drop_zero]
  repeat (first | go_big_quiet_skip | (go_big_quiet_want; go_big_quiet_op; first | go_big_quiet_on | (apply Exists.intro; refine ⟨?_, ?_⟩; (first | (go_at_call 74; exact HC.out _ _ _) | (go_at_call 75; exact HS.out _ _ _) | (go_at_call 76; exact HL.out _ gr_auto)); go_big_quiet_on)))
  refine wpQuiet_nil ?_
  clear HL HC HS
  go_wp2_with fail
  refine (HO.out _ _ _ (by simp [go_sem, *]) (by simp [go_sem, *]) (by simp [go_sem, *]) (by simp [go_sem, *])).mono ?_
  rintro e w1 ⟨rfl, rfl⟩
  go_wp2_with fail
  go_ret
  exact ⟨rfl, 1, _, by rw [alloc_eq_grow, alloc_eq_grow, alloc_eq_grow, grow_grow, grow_grow]; rfl⟩
end Go.Proofs.YtllkiadedaghoaaGreatDoor
set_option linter.unusedVariables false
set_option linter.unusedSimpArgs false
namespace Go.Proofs.YtllkiadedaghoaaGreatDoor
open Go.RowKit
theorem ret_bool {a b : Bool} (h : a = b) : Ending.returned (.bool a) = .returned (.bool b) := by rw [h]
namespace Ba
/-- The first index below n that has a property. -/
def fst (p : Nat → Bool) : Nat → Option Nat
  | 0 => none
  | k + 1 => match fst p k with
    | some i => some i
    | none => if p k then some k else none
def fstI (p : Nat → Bool) (n : Nat) : Int := match fst p n with
  | some i => (i : Int)
  | none => -1
theorem fst_hit {p : Nat → Bool} {i : Nat} (h : fst p i = none) (hp : p i = true) : ∀ k, fst p (i + 1 + k) = some i
  | 0 => by rw [Nat.add_zero, fst, h]; simp [hp]
  | k + 1 => by rw [show i + 1 + (k + 1) = i + 1 + k + 1 by omega, fst, fst_hit h hp k]
theorem fst_miss {p : Nat → Bool} {i : Nat} (h : fst p i = none) (hp : p i = false) : fst p (i + 1) = none := by rw [fst, h]; simp [hp]
theorem fstI_hit {p : Nat → Bool} {i n : Nat} (h : fst p i = none) (hp : p i = true) (hi : i < n) : fstI p n = (i : Int) := by
  unfold fstI
  rw [show n = i + 1 + (n - (i + 1)) by omega, fst_hit h hp]
theorem fstI_none {p : Nat → Bool} {n : Nat} (h : fst p n = none) : fstI p n = -1 := by unfold fstI; rw [h]
theorem fst_some {p : Nat → Bool} : ∀ {n i : Nat}, fst p n = some i → i < n ∧ p i = true ∧ ∀ j, j < i → p j = false
  | 0, i, h => by cases h
  | n + 1, i, h => by
    rw [fst] at h
    cases e : fst p n with
    | some k =>
      rw [e] at h; simp only [Option.some.injEq] at h; subst h
      obtain ⟨a, b, c⟩ := fst_some e
      exact ⟨by omega, b, c⟩
    | none =>
      rw [e] at h
      simp only at h
      split at h
      · rename_i hp
        simp only [Option.some.injEq] at h; subst h
        refine ⟨by omega, hp, fun j hj => ?_⟩
        exact fst_no e j hj
      · cases h
where
  fst_no {p : Nat → Bool} : ∀ {n : Nat}, fst p n = none → ∀ j, j < n → p j = false
  | 0, _, j, hj => by omega
  | n + 1, h, j, hj => by
    rw [fst] at h
    cases e : fst p n with
    | some k => rw [e] at h; cases h
    | none =>
      rw [e] at h
      simp only at h
      split at h
      · cases h
      · rename_i hp
        by_cases e2 : j = n
        · subst e2; simpa using hp
        · exact fst_no e j (by omega)
/-- Has one of them the property? -/
def any (p : Nat → Bool) (n : Nat) : Bool := (fst p n).isSome
theorem fstI_ge (p : Nat → Bool) (n : Nat) : decide (0 ≤ fstI p n) = any p n := by
  unfold fstI any
  cases e : fst p n with
  | none => simp
  | some i => simp
end Ba
set_option maxRecDepth 100000 in
set_option maxHeartbeats 1000000 in
theorem idx_ints (f : FuncId) (cap : Array Value) (A : Option Addr) (n c b o : Nat) (X : Nat → Int) (p : Nat → Bool) (w : World) (hn : n ≤ 9223372036854775807) (hen : ∀ args w, (callFunc f args).run Tryz.prog w = .ok (.enter f args) w)
    (hA : 0 < n → A = some ⟨b, o, none⟩) (hX : ∀ i, i < n → w.cell? ⟨b, o + i, none⟩ = some (.int .i64 (X i)))
    (hp : ∀ i, i < n → ∀ W, Gr w W → Calls Tryz.prog f (#[.int .i64 (X i)] ++ cap) W fun e w' => e = .returned (.bool (p i)) ∧ Gr W w') :
    Calls Tryz.prog 194 #[.slice A n c, .func (.func f) #[] cap] w fun e w' => e = .returned (.int .i64 (Ba.fstI p n)) ∧ Gr w w' := by
  have HA := Lib.hid hA; have HX := Lib.hid hX; have HP := Lib.hid hp
  clear hA hX hp
  go_enter Tryz.func194, Tryz.ntmps194
  go_wp2_with fail
  go_loopw [8] (fun s8 wr => ∃ i : Nat, i ≤ n ∧ s8 = .int .i64 (i : Int) ∧ Gr w wr ∧ Hid (Ba.fst p i = none)) (fun s8 _ => n - (intOf s8).toNat)
  case atStart => exact ⟨0, Nat.zero_le _, rfl, Gr.refl _, rfl⟩
  case round =>
    obtain ⟨i, hi, rfl, hg, hf⟩ := hrel
    by_cases hlt : i < n
    · obtain rfl := HA.out (by omega)
      have a0 := Gr.at hg (HX.out i hlt)
      have HC := Lib.hid (HP.out i hlt)
      cases hpi : p i
      · rw [hpi] at HC
        have HF := Lib.hid (Ba.fst_miss hf.out hpi)
        clear hpi hi
        go_wp2_with fail
        refine (HC.out _ gr_auto).mono ?_
        rintro e w1 ⟨rfl, hb1⟩
        go_wp2_with fail
        go_roundw
        case rel => exact ⟨i + 1, by omega, by go_num, gr_auto, HF⟩
        case measure => simp [intOf]; omega
      · rw [hpi] at HC
        have HF := Lib.hid (Ba.fstI_hit hf.out hpi hlt)
        clear hpi hi
        go_wp2_with fail
        refine (HC.out _ gr_auto).mono ?_
        rintro e w1 ⟨rfl, hb1⟩
        go_wp2_with fail
        go_ret
        exact ⟨ret_int HF.out.symm, gr_auto⟩
    · obtain rfl : i = n := by omega
      have HF := Lib.hid (Ba.fstI_none hf.out)
      go_wp2_with fail
      go_ret
      exact ⟨ret_int HF.out.symm, hg⟩
end Go.Proofs.YtllkiadedaghoaaGreatDoor
