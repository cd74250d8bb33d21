/-
  Surfaces: the reference's Decimal. (Printed by mkn.py.)
  Surfaces: the state of the reference's Check in memory. (Printed by mko.py.)
  Surfaces: the faces that the reference's Check keeps.
  Surfaces: an empty row appended.
-/
import Derived.Test.YtajhhplgcegodaaGreatDoorInf01
import Derived.Test.YtajhhplgcegodaaGreatDoorInf44
import Derived.Test.YtajhhplgcegodaaGreatDoorInf08
import Derived.Laws.AppendOwnNone
set_option linter.unusedVariables false
set_option linter.unusedSimpArgs false
namespace Go.Proofs.YtajhhplgcegodaaGreatDoor
open Go.RowKit
namespace Dg
theorem nDigits_ge : ∀ n : Nat, 1 ≤ n → 10 ^ (Lib.nDigits n - 1) ≤ n := by
  intro n
  induction n using Nat.strongRecOn with
  | ind n ih =>
    intro h1
    rw [Lib.nDigits]
    split
    · simpa using h1
    · have := ih (n / 10) (by omega) (by omega)
      have p := nDigits_pos (n / 10)
      obtain ⟨j, hj⟩ : ∃ j, Lib.nDigits (n / 10) = j + 1 := ⟨Lib.nDigits (n / 10) - 1, by omega⟩
      rw [hj] at this ⊢
      simp only [Nat.add_sub_cancel] at this ⊢
      rw [Nat.pow_succ]; omega
theorem more {n c k : Nat} (hc : 1 ≤ c) : k < max c (Lib.nDigits n) ↔ (0 < n / 10 ^ k ∨ k < c) := by
  have hp : 0 < 10 ^ k := Nat.pow_pos (by omega)
  have e : 0 < n / 10 ^ k ↔ 10 ^ k ≤ n := by rw [Nat.div_pos_iff]; omega
  rw [e]
  constructor
  · intro h
    by_cases hk : k < c
    · exact Or.inr hk
    · left
      have hd : k < Lib.nDigits n := by omega
      by_cases h1 : 1 ≤ n
      · exact Nat.le_trans (Nat.pow_le_pow_right (by omega) (by omega)) (nDigits_ge n h1)
      · have : n = 0 := by omega
        subst this
        rw [Lib.nDigits] at hd; simp at hd; omega
  · intro h
    rcases h with h | h
    · have := nDigits_lt n
      have : k < Lib.nDigits n := by
        rcases Nat.lt_or_ge k (Lib.nDigits n) with a | a
        · exact a
        · have := Nat.pow_le_pow_right (show 0 < 10 by omega) a; omega
      omega
    · omega
end Dg
theorem one_byte (W : World) (x : Nat) (hx : x < 256) : (convert 180 9 (.slice (some ⟨W.heap.size, 0, none⟩) 1 1)).run Tryz.prog (W.alloc (.cells #[.int .u8 (x : Int)] 5)) = .ok (.string ⟨#[UInt8.ofNat x]⟩) (W.alloc (.cells #[.int .u8 (x : Int)] 5)) := by
  refine run_convert_bytes_back _ _ _ 5 _ _ [UInt8.ofNat x] Tryz.underlying180 Tryz.underlying5 Tryz.underlying9 fun j hj => ?_
  have : j = 0 := by simpa using hj
  subst this
  have hb : ((UInt8.ofNat x).toNat : Int) = x := by rw [UInt8.toNat_ofNat']; omega
  simp only [List.getElem_cons_zero, hb]
  show World.cell? _ ⟨W.heap.size, 0, none⟩ = _
  rw [World.cell?_alloc_at _ _ _ _ rfl]; rfl
set_option maxRecDepth 100000 in
set_option maxHeartbeats 1000000 in
theorem rs_decimal (n : Nat) (w : World) (hn : n < 9223372036854775808) : Calls Tryz.prog 86 #[.int .i64 (n : Int)] w fun e w' => e = .returned (.string ⟨(Lib.decDigits n).toArray⟩) ∧ Gr w w' := by
  have hm : max 1 (Lib.nDigits n) ≤ 20 := by have := Dg.nDigits_le (c := 19) (n := n) (by omega) (by omega); omega
  have HM := Lib.hid (fun k => Dg.more (n := n) (c := 1) (k := k) (Nat.le_refl _))
  have HP := Lib.hid (show Dg.pd n (max 1 (Lib.nDigits n)) = Lib.decDigits n from by rw [Dg.dec_pd, Nat.max_eq_right (Dg.nDigits_pos n)])
  have HL := Lib.hid (fun k => Dg.pd_len k n)
  generalize max 1 (Lib.nDigits n) = M at *
  go_enter Tryz.func86, Tryz.ntmps86
  go_wp2_with fail
  go_loopw [0, 3] (fun s0 s5 wr => ∃ k q : Nat, k ≤ M ∧ Hid (q = n / 10 ^ k) ∧ s0 = .int .i64 q ∧ s5 = .string ⟨(Dg.pd n k).toArray⟩ ∧ Gr w wr ∧ q < 9223372036854775808) (fun s0 s5 _ => M - (match s5 with | .string s => s.size | _ => 0))
  case atStart => exact ⟨0, n, by omega, Lib.hid (by simp), rfl, rfl, gr_auto, hn⟩
  case round =>
    obtain ⟨k, q, hk, hq, rfl, rfl, hg, hq1⟩ := hrel
    have hl := HL.out k
    have hmk := HM.out k
    rw [← hq.out] at hmk
    have HPD := Lib.hid (Dg.pd_cons k n)
    rw [← hq.out] at HPD
    have hl' : (Dg.pd n k).length ≤ 20 := by omega
    have HLk := Lib.hid hl
    clear hl
    by_cases hkM : k < M
    · have hor := hmk.1 hkM
      have HMK := Lib.hid hmk; clear hmk
      have hq10 : q / 10 < 9223372036854775808 := by omega
      have hqq : Hid (q / 10 = n / 10 ^ (k + 1)) := Lib.hid (by rw [hq.out, Nat.div_div_eq_div_mul, Nat.pow_succ])
      have hcv : ∀ W : World, (convert 180 9 (.slice (some ⟨W.heap.size, 0, none⟩) 1 1)).run Tryz.prog (W.alloc (.cells #[.int .u8 (48 + (q : Int) % 10)] 5)) = .ok (.string ⟨#[UInt8.ofNat (48 + q % 10)]⟩) (W.alloc (.cells #[.int .u8 (48 + (q : Int) % 10)] 5)) := fun W => by
        have := one_byte W (48 + q % 10) (by omega)
        rw [show ((48 + q % 10 : Nat) : Int) = 48 + (q : Int) % 10 by omega] at this
        exact this
      generalize UInt8.ofNat (48 + q % 10) = dc at *
      by_cases hq0 : 0 < q
      · have t1 : decide ((0 : Int) < (q : Int)) = true := decide_eq_true (by omega)
        clear hor
        go_wp2_with fail
        go_roundw
        case rel => exact ⟨k + 1, q / 10, by omega, hqq, by go_num, by rw [HPD.out]; exact congrArg Value.string (by apply ByteArray.ext; simp [ByteArray.data_append]), gr_auto, hq10⟩
        case measure => simp [ByteArray.size, Dg.pd_len]; omega
      · have t1 : decide ((0 : Int) < (q : Int)) = false := decide_eq_false (by omega)
        have hkc : k < 1 := by rcases hor with h | h; exact absurd h hq0; exact h
        obtain rfl : k = 0 := by omega
        have hp0 : Dg.pd n 0 = [] := rfl
        rw [hp0] at HPD ⊢
        obtain rfl : q = 0 := by omega
        have hcv0 : ∀ W : World, (convert 180 9 (.slice (some ⟨W.heap.size, 0, none⟩) 1 1)).run Tryz.prog (W.alloc (.cells #[.int .u8 48] 5)) = .ok (.string ⟨#[dc]⟩) (W.alloc (.cells #[.int .u8 48] 5)) := hcv
        clear hor hp0 hcv
        go_wp2_with fail
        go_roundw
        case rel => exact ⟨1, 0, by omega, hqq, by go_num, by rw [HPD.out]; rfl, gr_auto, by omega⟩
        case measure => simp [ByteArray.size]; omega
    · have hor : ¬ (0 < q ∨ k < 1) := fun h => hkM (hmk.2 h)
      have t1 : decide ((0 : Int) < (q : Int)) = false := decide_eq_false (by omega)
      obtain rfl : k = M := by omega
      obtain ⟨c0, cl, hcl⟩ : ∃ c0 cl, Dg.pd n k = c0 :: cl := by
        cases hpd : Dg.pd n k with
        | nil => have := HLk.out; rw [hpd] at this; simp at this; omega
        | cons a b => exact ⟨a, b, rfl⟩
      rw [hcl] at HP ⊢
      clear hmk hcl
      go_wp2_with fail
      go_ret
      exact ⟨by rw [← HP.out]; rfl, gr_auto⟩
end Go.Proofs.YtajhhplgcegodaaGreatDoor
namespace Go.Proofs.YtajhhplgcegodaaGreatDoor
open Go.RowKit
/-- The findings of a kind, as cells. -/
def fr (k : Nat) (l : List Nat) : List Value := Ms.ff (l.map fun i => (k, i))
theorem fr_app (k : Nat) (l : List Nat) (i : Nat) : fr k (l ++ [i]) = fr k l ++ [.int .i64 (k : Int), .string ⟨(Lib.decDigits i).toArray⟩] := by
  unfold fr
  rw [List.map_append]
  exact Ms.ff_app _ _
/-- Faces as cells. -/
def fc : List Ba.Face → List Value
  | [] => []
  | t :: l => [.int .i64 t.a, .int .i64 t.b, .int .i64 t.c, .int .i64 t.k] ++ fc l
theorem fc_app : ∀ (l : List Ba.Face) (t : Ba.Face), fc (l ++ [t]) = fc l ++ [.int .i64 t.a, .int .i64 t.b, .int .i64 t.c, .int .i64 t.k]
  | [], t => by simp [fc]
  | a :: l, t => by rw [List.cons_append, fc, fc, fc_app l t]; simp
theorem fc_get : ∀ {l : List Ba.Face} {j : Nat} {t : Ba.Face}, l[j]? = some t → (fc l)[j * 4]? = some (.int .i64 t.a) ∧ (fc l)[j * 4 + 1]? = some (.int .i64 t.b) ∧ (fc l)[j * 4 + 2]? = some (.int .i64 t.c) ∧ (fc l)[j * 4 + 3]? = some (.int .i64 t.k)
  | [], j, t, h => by simp at h
  | a :: l, 0, t, h => by
    simp only [List.getElem?_cons_zero, Option.some.injEq] at h
    subst h
    exact ⟨rfl, rfl, rfl, rfl⟩
  | a :: l, j + 1, t, h => by
    rw [List.getElem?_cons_succ] at h
    obtain ⟨h0, h1, h2, h3⟩ := fc_get h
    rw [fc]
    have hl : ∀ (q : Nat) (x : Value), (fc l)[j * 4 + q]? = some x → ([Value.int .i64 a.a, .int .i64 a.b, .int .i64 a.c, .int .i64 a.k] ++ fc l)[(j + 1) * 4 + q]? = some x := fun q x hx => by
      rw [List.getElem?_append_right (by simp; omega)]
      rw [show (j + 1) * 4 + q - [Value.int .i64 a.a, .int .i64 a.b, .int .i64 a.c, .int .i64 a.k].length = j * 4 + q by simp; omega]
      exact hx
    exact ⟨hl 0 _ h0, hl 1 _ h1, hl 2 _ h2, hl 3 _ h3⟩
/-- A family of rows of ints whose slices lie in one block of their own. -/
structure Fnr (w : World) (base FB K : Nat) (V : Nat → Value) (l : Nat → List Nat) : Prop where
  cel : ∀ k, k < K → Own w FB k (V k)
  fam : Fam w base 128 2 K V (fun k => (l k).length) (fun k => fr k (l k))
section
variable {w w1 : World} {base FB K : Nat} {V : Nat → Value} {l l' : Nat → List Nat}
theorem Fnr.gr (h : Fnr w base FB K V l) (hg : Gr w w1) : Fnr w1 base FB K V l := ⟨fun k hk => (h.cel k hk).gr hg, h.fam.gr hg⟩
theorem Fnr.grx {M : Nat} (h : Fnr w base FB K V l) (hg : GrX M w w1) (h1 : FB ≠ M) (h2 : M < base) : Fnr w1 base FB K V l := ⟨fun k hk => (h.cel k hk).grx hg h1, h.fam.grx hg h2⟩
theorem Fnr.as (h : Fnr w base FB K V l) (e : ∀ k, k < K → l' k = l k) : Fnr w base FB K V l' := ⟨h.cel, h.fam.as (fun k hk => by rw [e k hk]) (fun k hk => by rw [e k hk])⟩
theorem Fnr.row (h : Fnr w base FB K V l) {k : Nat} (hk : k < K) : w.ownsRow base 128 2 (V k) (l k).length (fr k (l k)) := h.fam.own k hk
/-- One of the rows has got one number more, and its slice has been stored. -/
theorem Fnr.push {k g cap i : Nat} (h : Fnr w base FB K V l) (hk : k < K) (hF : FB < base) (hb : base ≤ w.heap.size) (ho : w1.ownsRow base 128 2 (.slice (some ⟨g, 0, none⟩) ((l k).length + 1) cap) ((l k).length + 1) (fr k (l k) ++ [.int .i64 (k : Int), .string ⟨(Lib.decDigits i).toArray⟩])) (hgr : w.grownBy w1 (V k).ownBlock) (hat : (V k).ownBlock = some g ∨ g = w.heap.size)
    (he : ∀ j, j < K → l' j = upd l k (l k ++ [i]) j) : Fnr (w1.setCell ⟨FB, k, none⟩ (.slice (some ⟨g, 0, none⟩) ((l k).length + 1) cap)) base FB K (upd V k (.slice (some ⟨g, 0, none⟩) ((l k).length + 1) cap)) l' := by
  have hB := own_below (h.row hk) hgr hb
  have hc : ∀ j, j < K → Own w1 FB j (V j) := fun j hj => (h.cel j hj).below hB hF
  have hfm := (h.fam.app hk ho hgr hat).grx (M := FB) (w1 := w1.setCell ⟨FB, k, none⟩ (.slice (some ⟨g, 0, none⟩) ((l k).length + 1) cap)) (GrX.setCell (GrX.refl FB w1) rfl _) hF
  refine ⟨fun j hj => ?_, hfm.as (fun j hj => ?_) (fun j hj => ?_)⟩
  · by_cases e : j = k
    · subst e; rw [upd_same]; exact (hc j hj).set
    · rw [upd_ne _ _ e]; exact (hc j hj).other (Or.inr e)
  · rw [he j hj]
    by_cases e : j = k
    · subst e; rw [upd_same, upd_same, List.length_append]; rfl
    · rw [upd_ne _ _ e, upd_ne _ _ e]
  · rw [he j hj]
    by_cases e : j = k
    · subst e; rw [upd_same, upd_same]; exact fr_app _ _ _
    · rw [upd_ne _ _ e, upd_ne _ _ e]
end
theorem Fnr.grx' {w w1 : World} {base FB K M : Nat} {V : Nat → Value} {l : Nat → List Nat} (h : Fnr w base FB K V l) (hg : GrX M w w1) (h1 : FB ≠ M) (h2 : ∀ k, k < K → (V k).ownBlock ≠ some M) : Fnr w1 base FB K V l := ⟨fun k hk => (h.cel k hk).grx hg h1, h.fam.grx' hg h2⟩
/-- What stays where the call's rows and one block of slices turn: the blocks below base, and the new ones that are kept apart. -/
structure Sr (w : World) (base FB : Nat) (BS : Nat → Prop) (W : World) (V : Nat → Value) (l : Nat → List Nat) (sv : Value) (ts : List Ba.Face) : Prop where
  fnd : Fnr W base FB 7 V l
  snd : W.ownsRow base 74 4 sv ts.length (fc ts)
  ap : ∀ k, k < 7 → Apt (V k) sv
  pr : ∀ B, BS B → B < W.heap.size ∧ (∀ k, k < 7 → (V k).ownBlock ≠ some B) ∧ sv.ownBlock ≠ some B ∧ FB ≠ B
  g : Gr w W
  hb : base ≤ W.heap.size
  hF : w.heap.size ≤ FB ∧ FB < base
section
variable {w W W1 : World} {base FB : Nat} {BS : Nat → Prop} {V : Nat → Value} {l l' : Nat → List Nat} {sv : Value} {ts : List Ba.Face}
theorem Sr.gr (h : Sr w base FB BS W V l sv ts) (hg : Gr W W1) : Sr w base FB BS W1 V l sv ts :=
  ⟨h.fnd.gr hg, ownsRow_gr h.snd hg, h.ap, fun B hB => ⟨Nat.lt_of_lt_of_le (h.pr B hB).1 (Gr.size hg), (h.pr B hB).2⟩, h.g.trans hg, Nat.le_trans h.hb (Gr.size hg), h.hF⟩
theorem Sr.as (h : Sr w base FB BS W V l sv ts) (e : ∀ k, k < 7 → l' k = l k) : Sr w base FB BS W V l' sv ts := ⟨h.fnd.as e, h.snd, h.ap, h.pr, h.g, h.hb, h.hF⟩
/-- A block that was not there before is kept apart from now on. -/
theorem Sr.more (h : Sr w base FB BS W V l sv ts) (hg : Gr W W1) {B : Nat} (h1 : W.heap.size ≤ B) (h2 : B < W1.heap.size) : Sr w base FB (fun b => BS b ∨ b = B) W1 V l sv ts := by
  have k := h.gr hg
  refine ⟨k.fnd, k.snd, k.ap, ?_, k.g, k.hb, k.hF⟩
  rintro b (hb | rfl)
  · exact k.pr b hb
  · refine ⟨h2, fun q hq e => ?_, fun e => ?_, ?_⟩
    · exact own_fresh (h.fnd.row hq) h1 e.symm
    · exact own_fresh h.snd h1 e.symm
    · have := h.hF; have := h.hb; omega
theorem Sr.less (h : Sr w base FB BS W V l sv ts) {BT : Nat → Prop} (e : ∀ b, BT b → BS b) : Sr w base FB BT W V l sv ts := ⟨h.fnd, h.snd, h.ap, fun b hb => h.pr b (e b hb), h.g, h.hb, h.hF⟩
/-- A block that is kept apart turns. -/
theorem Sr.turn (h : Sr w base FB BS W V l sv ts) {B : Nat} (hB : BS B) (hw : w.heap.size ≤ B) (hg : GrX B W W1) : Sr w base FB BS W1 V l sv ts :=
  ⟨h.fnd.grx' hg (h.pr B hB).2.2.2 (h.pr B hB).2.1, ownsRow_grx h.snd hg (h.pr B hB).2.2.1, h.ap, fun b hb => ⟨Nat.lt_of_lt_of_le (h.pr b hb).1 hg.size, (h.pr b hb).2⟩, GrX.gr h.g hw hg, Nat.le_trans h.hb hg.size, h.hF⟩
/-- A number has been appended to row k: the slice's cell is as it was; then the slice is stored. -/
theorem Sr.push {k g cap i : Nat} (h : Sr w base FB BS W V l sv ts) (hk : k < 7) (ho : W1.ownsRow base 128 2 (.slice (some ⟨g, 0, none⟩) ((l k).length + 1) cap) ((l k).length + 1) (fr k (l k) ++ [.int .i64 (k : Int), .string ⟨(Lib.decDigits i).toArray⟩])) (hgr : W.grownBy W1 (V k).ownBlock) (hat : (V k).ownBlock = some g ∨ g = W.heap.size)
    (he : ∀ j, j < 7 → l' j = upd l k (l k ++ [i]) j) : Own W1 FB k (V k) ∧ Sr w base FB BS (W1.setCell ⟨FB, k, none⟩ (.slice (some ⟨g, 0, none⟩) ((l k).length + 1) cap)) (upd V k (.slice (some ⟨g, 0, none⟩) ((l k).length + 1) cap)) l' sv ts := by
  have hB := own_below (h.fnd.row hk) hgr h.hb
  have gx : GrX FB W1 (W1.setCell ⟨FB, k, none⟩ (.slice (some ⟨g, 0, none⟩) ((l k).length + 1) cap)) := GrX.setCell (GrX.refl FB W1) rfl _
  refine ⟨(h.fnd.cel k hk).below hB h.hF.2, h.fnd.push hk h.hF.2 h.hb ho hgr hat he, ?_, ?_, ?_, ?_, ?_, h.hF⟩
  · exact ownsRow_grx (h.snd.kept hgr (h.ap k hk).symm) gx (own_ne h.snd h.hF.2)
  · intro j hj
    by_cases e : j = k
    · subst e; rw [upd_same]; exact (apt_new h.snd (h.ap j hj).symm hat).symm
    · rw [upd_ne _ _ e]; exact h.ap j hj
  · intro B hB'
    obtain ⟨p1, p2, p3, p4⟩ := h.pr B hB'
    refine ⟨Nat.lt_of_lt_of_le p1 (Nat.le_trans hgr.size gx.size), fun j hj => ?_, p3, p4⟩
    by_cases e : j = k
    · subst e; rw [upd_same]
      intro e2
      have e3 : g = B := by simpa [Value.ownBlock] using e2
      rcases hat with q | q
      · exact p2 j hj (by rw [q, e3])
      · omega
    · rw [upd_ne _ _ e]; exact p2 j hj
  · exact GrX.gr (Gr.own h.g (by have := h.hF; omega) (h.fnd.row hk) hgr) h.hF.1 gx
  · exact Nat.le_trans h.hb (Nat.le_trans hgr.size gx.size)
theorem Sr.push_cell {k g cap B o : Nat} {v : Value} (h : Sr w base FB BS W V l sv ts) (hk : k < 7) (hgr : W.grownBy W1 (V k).ownBlock) (hB : BS B ∨ (B < base ∧ FB ≠ B)) (hc : W.cell? ⟨B, o, none⟩ = some v) : (W1.setCell ⟨FB, k, none⟩ (.slice (some ⟨g, 0, none⟩) ((l k).length + 1) cap)).cell? ⟨B, o, none⟩ = some v := by
  refine GrX.at (GrX.setCell (GrX.refl FB W1) rfl _) ?_ (World.grownBy.cell hgr (a := ⟨B, o, none⟩) hc ?_)
  · rcases hB with h1 | h1
    · exact Ne.symm (h.pr B h1).2.2.2
    · exact Ne.symm h1.2
  · rcases hB with h1 | h1
    · exact fun e => (h.pr B h1).2.1 k hk e.symm
    · exact fun e => own_ne (h.fnd.row hk) h1.1 e.symm
theorem Sr.push_map {P : Program} {t : TypeId} {k g cap B n : Nat} {f : Value → Option Value} (h : Sr w base FB BS W V l sv ts) (hk : k < 7) (hgr : W.grownBy W1 (V k).ownBlock) (hB : BS B) (hm : MapIs P t W B n f) : MapIs P t (W1.setCell ⟨FB, k, none⟩ (.slice (some ⟨g, 0, none⟩) ((l k).length + 1) cap)) B n f :=
  (hm.grownBy hgr (fun e => (h.pr B hB).2.1 k hk e.symm)).grx (GrX.setCell (GrX.refl FB W1) rfl _) (Ne.symm (h.pr B hB).2.2.2)
/-- A triangle has been appended. -/
theorem Sr.face {g cap : Nat} {t : Ba.Face} (h : Sr w base FB BS W V l sv ts) (ho : W1.ownsRow base 74 4 (.slice (some ⟨g, 0, none⟩) (ts.length + 1) cap) (ts.length + 1) (fc ts ++ [.int .i64 t.a, .int .i64 t.b, .int .i64 t.c, .int .i64 t.k])) (hgr : W.grownBy W1 sv.ownBlock) (hat : sv.ownBlock = some g ∨ g = W.heap.size) :
    Sr w base FB BS W1 V l (.slice (some ⟨g, 0, none⟩) (ts.length + 1) cap) (ts ++ [t]) := by
  have hB := own_below h.snd hgr h.hb
  refine ⟨⟨fun k hk => (h.fnd.cel k hk).below hB h.hF.2, h.fnd.fam.kept hgr (fun k hk => h.ap k hk)⟩, ?_, ?_, ?_, ?_, ?_, h.hF⟩
  · rw [fc_app, List.length_append]; exact ho
  · intro k hk
    exact apt_new (h.fnd.row hk) (h.ap k hk) hat
  · intro B hB'
    obtain ⟨p1, p2, p3, p4⟩ := h.pr B hB'
    refine ⟨Nat.lt_of_lt_of_le p1 hgr.size, p2, fun e => ?_, p4⟩
    have e3 : g = B := by simpa [Value.ownBlock] using e
    rcases hat with q | q
    · exact p3 (by rw [q, e3])
    · omega
  · exact Gr.own h.g (by have := h.hF; omega) h.snd hgr
  · exact Nat.le_trans h.hb hgr.size
theorem Sr.face_cell {B o : Nat} {v : Value} (h : Sr w base FB BS W V l sv ts) (hgr : W.grownBy W1 sv.ownBlock) (hB : BS B ∨ B < base) (hc : W.cell? ⟨B, o, none⟩ = some v) : W1.cell? ⟨B, o, none⟩ = some v := by
  refine World.grownBy.cell hgr (a := ⟨B, o, none⟩) hc ?_
  rcases hB with h1 | h1
  · exact fun e => (h.pr B h1).2.2.1 e.symm
  · exact fun e => own_ne h.snd h1 e.symm
end
end Go.Proofs.YtajhhplgcegodaaGreatDoor
namespace Go.Proofs.YtajhhplgcegodaaGreatDoor
open Go.RowKit
theorem own_face {w : World} {base E n : Nat} {v : Value} {l : List Ba.Face} (h : w.ownsRow base E 4 v n (fc l)) (hl : l.length = n) (hb : ∀ t ∈ l, t.Ok w) : ∃ s : Ba.SlFace, v = .slice s.A s.n s.c ∧ s.n = n ∧ s.At w ∧ ∀ j, j < n → l[j]? = some (s.D j) := by
  have h' := h
  obtain ⟨hl', ⟨rfl, he⟩ | ⟨g, cap, cur, rfl, hb', hc, hn, hm, r⟩⟩ := h
  · subst he
    exact ⟨⟨none, 0, 0, 0, 0, fun _ => ⟨0, 0, 0, 0⟩⟩, rfl, rfl, ⟨fun h => absurd h (by simp), Nat.le_refl _, by decide, fun i hi => absurd hi (by simp)⟩, fun j hj => absurd hj (by omega)⟩
  · refine ⟨⟨some ⟨g, 0, none⟩, n, cap, g, 0, fun j => l.getD j ⟨0, 0, 0, 0⟩⟩, rfl, rfl, ⟨fun _ => rfl, hn, by unfold maxLen at hm; exact hm, fun i hi => ?_⟩, fun j hj => ?_⟩
    · have hi' : i < l.length := by rw [hl]; exact hi
      have e : l[i]? = some (l.getD i ⟨0, 0, 0, 0⟩) := by rw [List.getElem?_eq_getElem hi', List.getD, List.getElem?_eq_getElem hi']; rfl
      obtain ⟨t, ht⟩ : ∃ t, l.getD i ⟨0, 0, 0, 0⟩ = t := ⟨_, rfl⟩
      rw [ht] at e
      simp only [ht]
      have ok := hb t (List.mem_of_getElem? e)
      obtain ⟨h0, h1, h2, h3⟩ := fc_get e
      have hin : i < n := hi
      have c : ∀ q, q < 4 → w.cell? ⟨g, i * 4 + q, none⟩ = (fc l)[i * 4 + q]? := fun q hq => h'.cellAt (i * 4 + q) (by omega)
      refine ⟨⟨?_, ?_, ?_, ?_⟩, ok⟩
      · rw [Nat.zero_add]; exact (c 0 (by omega)).trans h0
      · rw [Nat.zero_add]; exact (c 1 (by omega)).trans h1
      · rw [Nat.zero_add]; exact (c 2 (by omega)).trans h2
      · rw [Nat.zero_add]; exact (c 3 (by omega)).trans h3
    · have hj' : j < l.length := by omega
      simp only
      rw [List.getElem?_eq_getElem hj', List.getD, List.getElem?_eq_getElem hj']; rfl
namespace Ms
/-- The right faces below j. -/
def rgt (m : Mesh) (j : Nat) : List Ba.Face := (idx (fun i => sndB m (m.F.D i)) j).map m.F.D
theorem rgt_yes {m : Mesh} {j : Nat} (h : sndB m (m.F.D j) = true) : rgt m (j + 1) = rgt m j ++ [m.F.D j] := by unfold rgt; rw [idx_yes h, List.map_append]; rfl
theorem rgt_no {m : Mesh} {j : Nat} (h : sndB m (m.F.D j) = false) : rgt m (j + 1) = rgt m j := by unfold rgt; rw [idx_no h]
theorem rgt_len (m : Mesh) (j : Nat) : (rgt m j).length ≤ j := by unfold rgt; rw [List.length_map]; exact idx_le _ _
theorem rgt_mem {m : Mesh} {j : Nat} {t : Ba.Face} (ht : t ∈ rgt m j) : ∃ i, i < j ∧ t = m.F.D i ∧ fcB m t = true := by
  unfold rgt at ht
  obtain ⟨i, hi, rfl⟩ := List.mem_map.1 ht
  obtain ⟨h1, h2⟩ := idx_mem.1 hi
  have h2 : (fcB m (m.F.D i) && _) = true := h2
  exact ⟨i, h1, rfl, (Bool.and_eq_true_iff.1 h2).1⟩
theorem rgt_any {m : Mesh} {j : Nat} (P : Ba.Face → Bool) (D : Nat → Ba.Face) (hD : ∀ q, q < (rgt m j).length → (rgt m j)[q]? = some (D q)) : Ba.any (fun q => P (D q)) (rgt m j).length = Ba.any (fun i => sndB m (m.F.D i) && P (m.F.D i)) j := by
  rw [Bool.eq_iff_iff, any_iff, any_iff]
  constructor
  · rintro ⟨q, hq, h⟩
    have hm := List.mem_of_getElem? (hD q hq)
    obtain ⟨i, hi, e⟩ := List.mem_map.1 hm
    obtain ⟨h1, h2⟩ := idx_mem.1 hi
    exact ⟨i, h1, by show (sndB m (m.F.D i) && P (m.F.D i)) = true; rw [show sndB m (m.F.D i) = true from h2, e, h]; rfl⟩
  · rintro ⟨i, hi, h⟩
    rw [Bool.and_eq_true] at h
    have hm : m.F.D i ∈ rgt m j := List.mem_map.2 ⟨i, idx_mem.2 ⟨hi, h.1⟩, rfl⟩
    obtain ⟨q, hq, e⟩ := List.getElem_of_mem hm
    have := hD q hq
    rw [List.getElem?_eq_getElem hq] at this
    have e2 : D q = m.F.D i := by rw [← e]; simpa using this.symm
    exact ⟨q, hq, by rw [e2]; exact h.2⟩
end Ms
end Go.Proofs.YtajhhplgcegodaaGreatDoor
namespace Go.Proofs.YtajhhplgcegodaaGreatDoor
open Go.RowKit
theorem run_append_zero {P : Program} {w : World} (base : Nat) (t ty e : TypeId) (i : TypeInfo) (size : Nat) (ht : P.underlying t = some (.slice e)) (hi : P.info? e = some i)
    (v : Value) (n : Nat) (xs : List Value) (hown : w.ownsRow base e size v n xs) (ad : Addr) (c : Nat) :
    (Builtin.append_ #[t, t] ty #[v, .slice (some ad) 0 c]).run P w = .ok v w := by
  have h0 : (loadCells ad 0).run P w = .ok #[] w := by first | rfl | (simp [loadCells]; done) | (simp [loadCells, loadCellsFrom]; done) | (go_simp; done)
  rcases hown.2 with ⟨rfl, rfl⟩ | ⟨g, cap, cur, rfl, _, _, hnc, _⟩
  · simp [Builtin.append_, run_underlying ht, sizeOf, typeInfo, hi, Builtin.lenOf, Builtin.firstCells, h0]
  · simp [Builtin.append_, run_underlying ht, sizeOf, typeInfo, hi, Builtin.lenOf, Builtin.firstCells, hnc, storeCells, h0]
theorem wpList_append_zero {P : Program} {w : World} {ops : Array Oper} {rest : List Oper} {o : Oper} {a : Act} {Q : Exit → Act → World → Prop} (hgd : o.guard = none) (s x : Operand) (t : TypeId)
    (ho : o.op = .call { callee := .builtin .append, args := #[s, x], argTypes := #[t, t] })
    (base : Nat) (e : TypeId) (i : TypeInfo) (size : Nat) (ht : P.underlying t = some (.slice e)) (hi : P.info? e = some i)
    (v : Value) (n : Nat) (xs : List Value) (hs : a.eval s = v) (hown : w.ownsRow base e size v n xs) (ad : Addr) (c : Nat) (hx : a.eval x = .slice (some ad) 0 c)
    (h : wpList P ops Q rest (a.put o.dst v) w) : wpList P ops Q (o :: rest) a w := by
  refine wpList_plain hgd fun K hK => ?_
  have hrun := run_append_zero (P := P) (w := w) base t o.type e i size ht hi v n xs hown ad c
  unfold Oper.wp
  simp [execOp, ho, resolve, invoke, builtin, hs, hx, hrun, Result.andThen]
  exact hK _ _ h
end Go.Proofs.YtajhhplgcegodaaGreatDoor
