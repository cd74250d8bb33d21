/-
  Surfaces: the state of the reference's Check in memory. (Printed by mko.py.)
-/
import Derived.Test.YtajhhplgcegodaaDoorMsG
import Derived.Test.YtajhhplgcegodaaDoorMsH
set_option linter.unusedVariables false
set_option linter.unusedSimpArgs false
namespace Go.Proofs.YtajhhplgcegodaaDoor
open Go.RowKit
/-- The findings of a kind, as cells. -/
def fr (k : Nat) (l : List Nat) : List Value := Ms.ff (l.map fun i => (k, i))
theorem fr_app (k : Nat) (l : List Nat) (i : Nat) : fr k (l ++ [i]) = fr k l ++ [.int .i64 (k : Int), .string ⟨(Lib.decDigits i).toArray⟩] := by
  unfold fr
  rw [List.map_append]
  exact Ms.ff_app _ _
/-- Faces as cells. -/
def fc : List Ba.Face → List Value
  | [] => []
  | t :: l => [.int .i64 t.a, .int .i64 t.b, .int .i64 t.c, .int .i64 t.k] ++ fc l
theorem fc_app : ∀ (l : List Ba.Face) (t : Ba.Face), fc (l ++ [t]) = fc l ++ [.int .i64 t.a, .int .i64 t.b, .int .i64 t.c, .int .i64 t.k]
  | [], t => by simp [fc]
  | a :: l, t => by rw [List.cons_append, fc, fc, fc_app l t]; simp
theorem fc_len : ∀ l : List Ba.Face, (fc l).length = l.length * 4
  | [] => rfl
  | t :: l => by rw [fc, List.length_append, fc_len l, List.length_cons]; simp; omega
theorem fc_get : ∀ {l : List Ba.Face} {j : Nat} {t : Ba.Face}, l[j]? = some t → (fc l)[j * 4]? = some (.int .i64 t.a) ∧ (fc l)[j * 4 + 1]? = some (.int .i64 t.b) ∧ (fc l)[j * 4 + 2]? = some (.int .i64 t.c) ∧ (fc l)[j * 4 + 3]? = some (.int .i64 t.k)
  | [], j, t, h => by simp at h
  | a :: l, 0, t, h => by
    simp only [List.getElem?_cons_zero, Option.some.injEq] at h
    subst h
    exact ⟨rfl, rfl, rfl, rfl⟩
  | a :: l, j + 1, t, h => by
    rw [List.getElem?_cons_succ] at h
    obtain ⟨h0, h1, h2, h3⟩ := fc_get h
    rw [fc]
    have hl : ∀ (q : Nat) (x : Value), (fc l)[j * 4 + q]? = some x → ([Value.int .i64 a.a, .int .i64 a.b, .int .i64 a.c, .int .i64 a.k] ++ fc l)[(j + 1) * 4 + q]? = some x := fun q x hx => by
      rw [List.getElem?_append_right (by simp; omega)]
      rw [show (j + 1) * 4 + q - [Value.int .i64 a.a, .int .i64 a.b, .int .i64 a.c, .int .i64 a.k].length = j * 4 + q by simp; omega]
      exact hx
    exact ⟨hl 0 _ h0, hl 1 _ h1, hl 2 _ h2, hl 3 _ h3⟩
/-- A family of rows of ints whose slices lie in one block of their own. -/
structure Fnr (w : World) (base FB K : Nat) (V : Nat → Value) (l : Nat → List Nat) : Prop where
  cel : ∀ k, k < K → Own w FB k (V k)
  fam : Fam w base 35 2 K V (fun k => (l k).length) (fun k => fr k (l k))
section
variable {w w1 : World} {base FB K : Nat} {V : Nat → Value} {l l' : Nat → List Nat}
theorem Fnr.gr (h : Fnr w base FB K V l) (hg : Gr w w1) : Fnr w1 base FB K V l := ⟨fun k hk => (h.cel k hk).gr hg, h.fam.gr hg⟩
theorem Fnr.grx {M : Nat} (h : Fnr w base FB K V l) (hg : GrX M w w1) (h1 : FB ≠ M) (h2 : M < base) : Fnr w1 base FB K V l := ⟨fun k hk => (h.cel k hk).grx hg h1, h.fam.grx hg h2⟩
theorem Fnr.as (h : Fnr w base FB K V l) (e : ∀ k, k < K → l' k = l k) : Fnr w base FB K V l' := ⟨h.cel, h.fam.as (fun k hk => by rw [e k hk]) (fun k hk => by rw [e k hk])⟩
theorem Fnr.row (h : Fnr w base FB K V l) {k : Nat} (hk : k < K) : w.ownsRow base 35 2 (V k) (l k).length (fr k (l k)) := h.fam.own k hk
/-- One of the rows has got one number more, and its slice has been stored. -/
theorem Fnr.push {k g cap i : Nat} (h : Fnr w base FB K V l) (hk : k < K) (hF : FB < base) (hb : base ≤ w.heap.size) (ho : w1.ownsRow base 35 2 (.slice (some ⟨g, 0, none⟩) ((l k).length + 1) cap) ((l k).length + 1) (fr k (l k) ++ [.int .i64 (k : Int), .string ⟨(Lib.decDigits i).toArray⟩])) (hgr : w.grownBy w1 (V k).ownBlock) (hat : (V k).ownBlock = some g ∨ g = w.heap.size)
    (he : ∀ j, j < K → l' j = upd l k (l k ++ [i]) j) : Fnr (w1.setCell ⟨FB, k, none⟩ (.slice (some ⟨g, 0, none⟩) ((l k).length + 1) cap)) base FB K (upd V k (.slice (some ⟨g, 0, none⟩) ((l k).length + 1) cap)) l' := by
  have hB := own_below (h.row hk) hgr hb
  have hc : ∀ j, j < K → Own w1 FB j (V j) := fun j hj => (h.cel j hj).below hB hF
  have hfm := (h.fam.app hk ho hgr hat).grx (M := FB) (w1 := w1.setCell ⟨FB, k, none⟩ (.slice (some ⟨g, 0, none⟩) ((l k).length + 1) cap)) (GrX.setCell (GrX.refl FB w1) rfl _) hF
  refine ⟨fun j hj => ?_, hfm.as (fun j hj => ?_) (fun j hj => ?_)⟩
  · by_cases e : j = k
    · subst e; rw [upd_same]; exact (hc j hj).set
    · rw [upd_ne _ _ e]; exact (hc j hj).other (Or.inr e)
  · rw [he j hj]
    by_cases e : j = k
    · subst e; rw [upd_same, upd_same, List.length_append]; rfl
    · rw [upd_ne _ _ e, upd_ne _ _ e]
  · rw [he j hj]
    by_cases e : j = k
    · subst e; rw [upd_same, upd_same]; exact fr_app _ _ _
    · rw [upd_ne _ _ e, upd_ne _ _ e]
end
theorem Fnr.grx' {w w1 : World} {base FB K M : Nat} {V : Nat → Value} {l : Nat → List Nat} (h : Fnr w base FB K V l) (hg : GrX M w w1) (h1 : FB ≠ M) (h2 : ∀ k, k < K → (V k).ownBlock ≠ some M) : Fnr w1 base FB K V l := ⟨fun k hk => (h.cel k hk).grx hg h1, h.fam.grx' hg h2⟩
/-- What stays where the call's rows and one block of slices turn: the blocks below base, and the new ones that are kept apart. -/
structure Sr (w : World) (base FB : Nat) (BS : Nat → Prop) (W : World) (V : Nat → Value) (l : Nat → List Nat) (sv : Value) (ts : List Ba.Face) : Prop where
  fnd : Fnr W base FB 7 V l
  snd : W.ownsRow base 43 4 sv ts.length (fc ts)
  ap : ∀ k, k < 7 → Apt (V k) sv
  pr : ∀ B, BS B → B < W.heap.size ∧ (∀ k, k < 7 → (V k).ownBlock ≠ some B) ∧ sv.ownBlock ≠ some B ∧ FB ≠ B
  g : Gr w W
  hb : base ≤ W.heap.size
  hF : w.heap.size ≤ FB ∧ FB < base
section
variable {w W W1 : World} {base FB : Nat} {BS : Nat → Prop} {V : Nat → Value} {l l' : Nat → List Nat} {sv : Value} {ts : List Ba.Face}
theorem Sr.gr (h : Sr w base FB BS W V l sv ts) (hg : Gr W W1) : Sr w base FB BS W1 V l sv ts :=
  ⟨h.fnd.gr hg, ownsRow_gr h.snd hg, h.ap, fun B hB => ⟨Nat.lt_of_lt_of_le (h.pr B hB).1 (Gr.size hg), (h.pr B hB).2⟩, h.g.trans hg, Nat.le_trans h.hb (Gr.size hg), h.hF⟩
theorem Sr.as (h : Sr w base FB BS W V l sv ts) (e : ∀ k, k < 7 → l' k = l k) : Sr w base FB BS W V l' sv ts := ⟨h.fnd.as e, h.snd, h.ap, h.pr, h.g, h.hb, h.hF⟩
/-- A block that was not there before is kept apart from now on. -/
theorem Sr.more (h : Sr w base FB BS W V l sv ts) (hg : Gr W W1) {B : Nat} (h1 : W.heap.size ≤ B) (h2 : B < W1.heap.size) : Sr w base FB (fun b => BS b ∨ b = B) W1 V l sv ts := by
  have k := h.gr hg
  refine ⟨k.fnd, k.snd, k.ap, ?_, k.g, k.hb, k.hF⟩
  rintro b (hb | rfl)
  · exact k.pr b hb
  · refine ⟨h2, fun q hq e => ?_, fun e => ?_, ?_⟩
    · exact own_fresh (h.fnd.row hq) h1 e.symm
    · exact own_fresh h.snd h1 e.symm
    · have := h.hF; have := h.hb; omega
theorem Sr.less (h : Sr w base FB BS W V l sv ts) {BT : Nat → Prop} (e : ∀ b, BT b → BS b) : Sr w base FB BT W V l sv ts := ⟨h.fnd, h.snd, h.ap, fun b hb => h.pr b (e b hb), h.g, h.hb, h.hF⟩
/-- A block that is kept apart turns. -/
theorem Sr.turn (h : Sr w base FB BS W V l sv ts) {B : Nat} (hB : BS B) (hw : w.heap.size ≤ B) (hg : GrX B W W1) : Sr w base FB BS W1 V l sv ts :=
  ⟨h.fnd.grx' hg (h.pr B hB).2.2.2 (h.pr B hB).2.1, ownsRow_grx h.snd hg (h.pr B hB).2.2.1, h.ap, fun b hb => ⟨Nat.lt_of_lt_of_le (h.pr b hb).1 hg.size, (h.pr b hb).2⟩, GrX.gr h.g hw hg, Nat.le_trans h.hb hg.size, h.hF⟩
/-- A number has been appended to row k: the slice's cell is as it was; then the slice is stored. -/
theorem Sr.push {k g cap i : Nat} (h : Sr w base FB BS W V l sv ts) (hk : k < 7) (ho : W1.ownsRow base 35 2 (.slice (some ⟨g, 0, none⟩) ((l k).length + 1) cap) ((l k).length + 1) (fr k (l k) ++ [.int .i64 (k : Int), .string ⟨(Lib.decDigits i).toArray⟩])) (hgr : W.grownBy W1 (V k).ownBlock) (hat : (V k).ownBlock = some g ∨ g = W.heap.size)
    (he : ∀ j, j < 7 → l' j = upd l k (l k ++ [i]) j) : Own W1 FB k (V k) ∧ Sr w base FB BS (W1.setCell ⟨FB, k, none⟩ (.slice (some ⟨g, 0, none⟩) ((l k).length + 1) cap)) (upd V k (.slice (some ⟨g, 0, none⟩) ((l k).length + 1) cap)) l' sv ts := by
  have hB := own_below (h.fnd.row hk) hgr h.hb
  have gx : GrX FB W1 (W1.setCell ⟨FB, k, none⟩ (.slice (some ⟨g, 0, none⟩) ((l k).length + 1) cap)) := GrX.setCell (GrX.refl FB W1) rfl _
  refine ⟨(h.fnd.cel k hk).below hB h.hF.2, h.fnd.push hk h.hF.2 h.hb ho hgr hat he, ?_, ?_, ?_, ?_, ?_, h.hF⟩
  · exact ownsRow_grx (h.snd.kept hgr (h.ap k hk).symm) gx (own_ne h.snd h.hF.2)
  · intro j hj
    by_cases e : j = k
    · subst e; rw [upd_same]; exact (apt_new h.snd (h.ap j hj).symm hat).symm
    · rw [upd_ne _ _ e]; exact h.ap j hj
  · intro B hB'
    obtain ⟨p1, p2, p3, p4⟩ := h.pr B hB'
    refine ⟨Nat.lt_of_lt_of_le p1 (Nat.le_trans hgr.size gx.size), fun j hj => ?_, p3, p4⟩
    by_cases e : j = k
    · subst e; rw [upd_same]
      intro e2
      have e3 : g = B := by simpa [Value.ownBlock] using e2
      rcases hat with q | q
      · exact p2 j hj (by rw [q, e3])
      · omega
    · rw [upd_ne _ _ e]; exact p2 j hj
  · exact GrX.gr (Gr.own h.g (by have := h.hF; omega) (h.fnd.row hk) hgr) h.hF.1 gx
  · exact Nat.le_trans h.hb (Nat.le_trans hgr.size gx.size)
theorem Sr.push_cell {k g cap B o : Nat} {v : Value} (h : Sr w base FB BS W V l sv ts) (hk : k < 7) (hgr : W.grownBy W1 (V k).ownBlock) (hB : BS B ∨ (B < base ∧ FB ≠ B)) (hc : W.cell? ⟨B, o, none⟩ = some v) : (W1.setCell ⟨FB, k, none⟩ (.slice (some ⟨g, 0, none⟩) ((l k).length + 1) cap)).cell? ⟨B, o, none⟩ = some v := by
  refine GrX.at (GrX.setCell (GrX.refl FB W1) rfl _) ?_ (World.grownBy.cell hgr (a := ⟨B, o, none⟩) hc ?_)
  · rcases hB with h1 | h1
    · exact Ne.symm (h.pr B h1).2.2.2
    · exact Ne.symm h1.2
  · rcases hB with h1 | h1
    · exact fun e => (h.pr B h1).2.1 k hk e.symm
    · exact fun e => own_ne (h.fnd.row hk) h1.1 e.symm
theorem Sr.push_map {P : Program} {t : TypeId} {k g cap B n : Nat} {f : Value → Option Value} (h : Sr w base FB BS W V l sv ts) (hk : k < 7) (hgr : W.grownBy W1 (V k).ownBlock) (hB : BS B) (hm : MapIs P t W B n f) : MapIs P t (W1.setCell ⟨FB, k, none⟩ (.slice (some ⟨g, 0, none⟩) ((l k).length + 1) cap)) B n f :=
  (hm.grownBy hgr (fun e => (h.pr B hB).2.1 k hk e.symm)).grx (GrX.setCell (GrX.refl FB W1) rfl _) (Ne.symm (h.pr B hB).2.2.2)
/-- A triangle has been appended. -/
theorem Sr.face {g cap : Nat} {t : Ba.Face} (h : Sr w base FB BS W V l sv ts) (ho : W1.ownsRow base 43 4 (.slice (some ⟨g, 0, none⟩) (ts.length + 1) cap) (ts.length + 1) (fc ts ++ [.int .i64 t.a, .int .i64 t.b, .int .i64 t.c, .int .i64 t.k])) (hgr : W.grownBy W1 sv.ownBlock) (hat : sv.ownBlock = some g ∨ g = W.heap.size) :
    Sr w base FB BS W1 V l (.slice (some ⟨g, 0, none⟩) (ts.length + 1) cap) (ts ++ [t]) := by
  have hB := own_below h.snd hgr h.hb
  refine ⟨⟨fun k hk => (h.fnd.cel k hk).below hB h.hF.2, h.fnd.fam.kept hgr (fun k hk => h.ap k hk)⟩, ?_, ?_, ?_, ?_, ?_, h.hF⟩
  · rw [fc_app, List.length_append]; exact ho
  · intro k hk
    exact apt_new (h.fnd.row hk) (h.ap k hk) hat
  · intro B hB'
    obtain ⟨p1, p2, p3, p4⟩ := h.pr B hB'
    refine ⟨Nat.lt_of_lt_of_le p1 hgr.size, p2, fun e => ?_, p4⟩
    have e3 : g = B := by simpa [Value.ownBlock] using e
    rcases hat with q | q
    · exact p3 (by rw [q, e3])
    · omega
  · exact Gr.own h.g (by have := h.hF; omega) h.snd hgr
  · exact Nat.le_trans h.hb hgr.size
theorem Sr.face_cell {B o : Nat} {v : Value} (h : Sr w base FB BS W V l sv ts) (hgr : W.grownBy W1 sv.ownBlock) (hB : BS B ∨ B < base) (hc : W.cell? ⟨B, o, none⟩ = some v) : W1.cell? ⟨B, o, none⟩ = some v := by
  refine World.grownBy.cell hgr (a := ⟨B, o, none⟩) hc ?_
  rcases hB with h1 | h1
  · exact fun e => (h.pr B h1).2.2.1 e.symm
  · exact fun e => own_ne h.snd h1 e.symm
theorem Sr.face_map {P : Program} {t : TypeId} {B n : Nat} {f : Value → Option Value} (h : Sr w base FB BS W V l sv ts) (hgr : W.grownBy W1 sv.ownBlock) (hB : BS B) (hm : MapIs P t W B n f) : MapIs P t W1 B n f :=
  hm.grownBy hgr (fun e => (h.pr B hB).2.2.1 e.symm)
end
end Go.Proofs.YtajhhplgcegodaaDoor
