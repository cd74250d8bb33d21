/-
  Maps whose keys are pairs of ints: sides, and points. No condition.
  Surfaces: the state of mesh.Check's loops in memory, and how it turns. No condition.
-/
import Derived.Test.YtajhhplgcegodaaDoorMsD
import Derived.DeepKeys4
import Derived.WalkArith
set_option linter.unusedVariables false
set_option linter.unusedSimpArgs false
namespace Go.Proofs.YtajhhplgcegodaaDoor
open Go.RowKit Go.Maps Go.WideMaps
namespace Ms
/-- A pair of ints. -/
def k2 (a b : Int) : Value := .agg #[.int .i64 a, .int .i64 b]
theorem k2_inj {a b c d : Int} (h : k2 a b = k2 c d) : a = c ∧ b = d := by
  unfold k2 at h
  simpa using h
end Ms
theorem ms_laid : laidOutB Tryd.prog = true := by as_aux_lemma => kernel_rfl
theorem ms_types : ∃ m, Tryd.prog.types.size = m + 1 := ⟨Tryd.prog.types.size - 1, by have : 0 < Tryd.prog.types.size := of_decide_eq_true (by kernel_rfl); omega⟩
theorem keyed_side : Keyed Tryd.prog 48 := Keyed.of_law (deep_law_laid ms_laid (m := 2) (by omega) (of_decide_eq_true (by kernel_rfl)) (by kernel_rfl) (by rw [Tryd.underlying48]))
theorem keyed_point : Keyed Tryd.prog 76 := Keyed.of_law (deep_law_laid ms_laid (m := 2) (by omega) (of_decide_eq_true (by kernel_rfl)) (by kernel_rfl) (by rw [Tryd.underlying76]))
theorem key_side {a b : Int} (ha : Ba.i64 a) (hb : Ba.i64 b) : ∃ l, keyOf Tryd.prog 48 (Ms.k2 a b) = some l := by
  obtain ⟨m, hm⟩ := ms_types
  unfold Ba.i64 at ha hb
  have w1 : (Lit.int .i64 a).wf = true := WalkArith.wf_i64 (by omega)
  have w2 : (Lit.int .i64 b).wf = true := WalkArith.wf_i64 (by omega)
  have c1 : Tryd.prog.cellsOf 48 = 2 := by as_aux_lemma => kernel_rfl
  have c2 : Tryd.prog.cellsOf 3 = 1 := by as_aux_lemma => kernel_rfl
  have kt : Tryd.prog.keyType 48 = true := by as_aux_lemma => kernel_rfl
  unfold keyOf Ms.k2
  rw [Tryd.underlying48]
  simp [kt, Value.formed, Tryd.underlying48, Tryd.underlying3, c1, c2, Value.cells, hm, Program.keyLits, w1, w2, List.range, List.range.loop]
theorem key_point {a b : Int} (ha : Ba.i64 a) (hb : Ba.i64 b) : ∃ l, keyOf Tryd.prog 76 (Ms.k2 a b) = some l := by
  obtain ⟨m, hm⟩ := ms_types
  unfold Ba.i64 at ha hb
  have w1 : (Lit.int .i64 a).wf = true := WalkArith.wf_i64 (by omega)
  have w2 : (Lit.int .i64 b).wf = true := WalkArith.wf_i64 (by omega)
  have c1 : Tryd.prog.cellsOf 76 = 2 := by as_aux_lemma => kernel_rfl
  have c2 : Tryd.prog.cellsOf 3 = 1 := by as_aux_lemma => kernel_rfl
  have kt : Tryd.prog.keyType 76 = true := by as_aux_lemma => kernel_rfl
  have e1 : Tryd.prog.keyLits (m + 1) 3 [.int .i64 a] = some [.int .i64 a] := by unfold Program.keyLits; rw [Tryd.underlying3]; simp only [w1, and_self, if_true]
  have e2 : Tryd.prog.keyLits (m + 1) 3 [.int .i64 b] = some [.int .i64 b] := by unfold Program.keyLits; rw [Tryd.underlying3]; simp only [w2, and_self, if_true]
  obtain ⟨f1, f2, hu, ha, hf1, hf2, ho1, ho2⟩ : ∃ f1 f2 : Field, Tryd.prog.underlying 76 = some (.struct #[f1, f2]) ∧ (#[f1, f2] : Array Field).all (fun x => x.name != "_") = true ∧ f1.type = 3 ∧ f2.type = 3 ∧ f1.offset = 0 ∧ f2.offset = 1 :=
    ⟨_, _, Tryd.underlying76, by as_aux_lemma => kernel_rfl, rfl, rfl, rfl, rfl⟩
  have e3 : Tryd.prog.keyLits (m + 1 + 1) 76 [.int .i64 a, .int .i64 b] = some [.int .i64 a, .int .i64 b] := by
    unfold Program.keyLits
    rw [hu]
    simp only
    rw [if_pos ⟨by rw [c1]; rfl, ha⟩]
    simp [List.mapM_cons, hf1, hf2, ho1, ho2, c2, e1, e2]
  have hfo : (Value.agg #[.int .i64 a, .int .i64 b]).formed Tryd.prog 76 = true := by
    simp [Value.formed, hu, c1]
  unfold keyOf Ms.k2
  rw [hu]
  simp only
  rw [kt, hfo, hm]
  simp only [Bool.and_self, if_true]
  rw [show (Value.agg #[.int .i64 a, .int .i64 b]).cells.toList = [.int .i64 a, .int .i64 b] from rfl, e3]
  exact ⟨_, rfl⟩
end Go.Proofs.YtajhhplgcegodaaDoor
namespace Go.Proofs.YtajhhplgcegodaaDoor
open Go.RowKit
theorem GrX.trans {R : Nat} {a b c : World} (h : GrX R a b) (k : GrX R b c) : GrX R a c :=
  ⟨k.os.trans h.os, k.tape.trans h.tape, k.output.trans h.output, Nat.le_trans h.size k.size, fun i hi hR => (k.block i (Nat.lt_of_lt_of_le hi h.size) hR).trans (h.block i hi hR), fun o ho => k.row o (h.row o ho), fun o ho => (k.free o (h.row o ho)).trans (h.free o ho)⟩
theorem Fam.grx' {w w1 : World} {base E size K M : Nat} {V : Nat → Value} {N : Nat → Nat} {L : Nat → List Value} (h : Fam w base E size K V N L) (hg : GrX M w w1) (hM : ∀ k, k < K → (V k).ownBlock ≠ some M) : Fam w1 base E size K V N L := ⟨fun k hk => ownsRow_grx (h.own k hk) hg (hM k hk), h.apt⟩
theorem Fnd.grx' {w w1 : World} {base FB K M : Nat} {V : Nat → Value} {l : Nat → List Nat} (h : Fnd w base FB K V l) (hg : GrX M w w1) (h1 : FB ≠ M) (h2 : ∀ k, k < K → (V k).ownBlock ≠ some M) : Fnd w1 base FB K V l := ⟨fun k hk => (h.cel k hk).grx hg h1, h.fam.grx' hg h2⟩
/-- What stays where the call's rows and one block of slices turn: the blocks below base, and the new ones that are kept apart. -/
structure St (w : World) (base FB : Nat) (BS : Nat → Prop) (W : World) (V : Nat → Value) (l : Nat → List Nat) (sv : Value) (ts : List Ba.Tri) : Prop where
  fnd : Fnd W base FB 7 V l
  snd : W.ownsRow base 108 6 sv ts.length (ft ts)
  ap : ∀ k, k < 7 → Apt (V k) sv
  pr : ∀ B, BS B → B < W.heap.size ∧ (∀ k, k < 7 → (V k).ownBlock ≠ some B) ∧ sv.ownBlock ≠ some B ∧ FB ≠ B
  g : Gr w W
  hb : base ≤ W.heap.size
  hF : w.heap.size ≤ FB ∧ FB < base
section
variable {w W W1 : World} {base FB : Nat} {BS : Nat → Prop} {V : Nat → Value} {l l' : Nat → List Nat} {sv : Value} {ts : List Ba.Tri}
theorem St.gr (h : St w base FB BS W V l sv ts) (hg : Gr W W1) : St w base FB BS W1 V l sv ts :=
  ⟨h.fnd.gr hg, ownsRow_gr h.snd hg, h.ap, fun B hB => ⟨Nat.lt_of_lt_of_le (h.pr B hB).1 (Gr.size hg), (h.pr B hB).2⟩, h.g.trans hg, Nat.le_trans h.hb (Gr.size hg), h.hF⟩
theorem St.as (h : St w base FB BS W V l sv ts) (e : ∀ k, k < 7 → l' k = l k) : St w base FB BS W V l' sv ts := ⟨h.fnd.as e, h.snd, h.ap, h.pr, h.g, h.hb, h.hF⟩
/-- A block that was not there before is kept apart from now on. -/
theorem St.more (h : St w base FB BS W V l sv ts) (hg : Gr W W1) {B : Nat} (h1 : W.heap.size ≤ B) (h2 : B < W1.heap.size) : St w base FB (fun b => BS b ∨ b = B) W1 V l sv ts := by
  have k := h.gr hg
  refine ⟨k.fnd, k.snd, k.ap, ?_, k.g, k.hb, k.hF⟩
  rintro b (hb | rfl)
  · exact k.pr b hb
  · refine ⟨h2, fun q hq e => ?_, fun e => ?_, ?_⟩
    · exact own_fresh (h.fnd.row hq) h1 e.symm
    · exact own_fresh h.snd h1 e.symm
    · have := h.hF; have := h.hb; omega
theorem St.less (h : St w base FB BS W V l sv ts) {BT : Nat → Prop} (e : ∀ b, BT b → BS b) : St w base FB BT W V l sv ts := ⟨h.fnd, h.snd, h.ap, fun b hb => h.pr b (e b hb), h.g, h.hb, h.hF⟩
/-- A block that is kept apart turns. -/
theorem St.turn (h : St w base FB BS W V l sv ts) {B : Nat} (hB : BS B) (hw : w.heap.size ≤ B) (hg : GrX B W W1) : St w base FB BS W1 V l sv ts :=
  ⟨h.fnd.grx' hg (h.pr B hB).2.2.2 (h.pr B hB).2.1, ownsRow_grx h.snd hg (h.pr B hB).2.2.1, h.ap, fun b hb => ⟨Nat.lt_of_lt_of_le (h.pr b hb).1 hg.size, (h.pr b hb).2⟩, GrX.gr h.g hw hg, Nat.le_trans h.hb hg.size, h.hF⟩
/-- A number has been appended to row k: the slice's cell is as it was; then the slice is stored. -/
theorem St.push {k g cap i : Nat} (h : St w base FB BS W V l sv ts) (hk : k < 7) (ho : W1.ownsRow base 3 1 (.slice (some ⟨g, 0, none⟩) ((l k).length + 1) cap) ((l k).length + 1) (fi (l k) ++ [.int .i64 (i : Int)])) (hgr : W.grownBy W1 (V k).ownBlock) (hat : (V k).ownBlock = some g ∨ g = W.heap.size)
    (he : ∀ j, j < 7 → l' j = upd l k (l k ++ [i]) j) : Own W1 FB k (V k) ∧ St w base FB BS (W1.setCell ⟨FB, k, none⟩ (.slice (some ⟨g, 0, none⟩) ((l k).length + 1) cap)) (upd V k (.slice (some ⟨g, 0, none⟩) ((l k).length + 1) cap)) l' sv ts := by
  have hB := own_below (h.fnd.row hk) hgr h.hb
  have gx : GrX FB W1 (W1.setCell ⟨FB, k, none⟩ (.slice (some ⟨g, 0, none⟩) ((l k).length + 1) cap)) := GrX.setCell (GrX.refl FB W1) rfl _
  refine ⟨(h.fnd.cel k hk).below hB h.hF.2, h.fnd.push hk h.hF.2 h.hb ho hgr hat he, ?_, ?_, ?_, ?_, ?_, h.hF⟩
  · exact ownsRow_grx (h.snd.kept hgr (h.ap k hk).symm) gx (own_ne h.snd h.hF.2)
  · intro j hj
    by_cases e : j = k
    · subst e; rw [upd_same]; exact (apt_new h.snd (h.ap j hj).symm hat).symm
    · rw [upd_ne _ _ e]; exact h.ap j hj
  · intro B hB'
    obtain ⟨p1, p2, p3, p4⟩ := h.pr B hB'
    refine ⟨Nat.lt_of_lt_of_le p1 (Nat.le_trans hgr.size gx.size), fun j hj => ?_, p3, p4⟩
    by_cases e : j = k
    · subst e; rw [upd_same]
      intro e2
      have e3 : g = B := by simpa [Value.ownBlock] using e2
      rcases hat with q | q
      · exact p2 j hj (by rw [q, e3])
      · omega
    · rw [upd_ne _ _ e]; exact p2 j hj
  · exact GrX.gr (Gr.own h.g (by have := h.hF; omega) (h.fnd.row hk) hgr) h.hF.1 gx
  · exact Nat.le_trans h.hb (Nat.le_trans hgr.size gx.size)
theorem St.push_cell {k g cap B o : Nat} {v : Value} (h : St w base FB BS W V l sv ts) (hk : k < 7) (hgr : W.grownBy W1 (V k).ownBlock) (hB : BS B ∨ (B < base ∧ FB ≠ B)) (hc : W.cell? ⟨B, o, none⟩ = some v) : (W1.setCell ⟨FB, k, none⟩ (.slice (some ⟨g, 0, none⟩) ((l k).length + 1) cap)).cell? ⟨B, o, none⟩ = some v := by
  refine GrX.at (GrX.setCell (GrX.refl FB W1) rfl _) ?_ (World.grownBy.cell hgr (a := ⟨B, o, none⟩) hc ?_)
  · rcases hB with h1 | h1
    · exact Ne.symm (h.pr B h1).2.2.2
    · exact Ne.symm h1.2
  · rcases hB with h1 | h1
    · exact fun e => (h.pr B h1).2.1 k hk e.symm
    · exact fun e => own_ne (h.fnd.row hk) h1.1 e.symm
theorem St.push_map {P : Program} {t : TypeId} {k g cap B n : Nat} {f : Value → Option Value} (h : St w base FB BS W V l sv ts) (hk : k < 7) (hgr : W.grownBy W1 (V k).ownBlock) (hB : BS B) (hm : MapIs P t W B n f) : MapIs P t (W1.setCell ⟨FB, k, none⟩ (.slice (some ⟨g, 0, none⟩) ((l k).length + 1) cap)) B n f :=
  (hm.grownBy hgr (fun e => (h.pr B hB).2.1 k hk e.symm)).grx (GrX.setCell (GrX.refl FB W1) rfl _) (Ne.symm (h.pr B hB).2.2.2)
/-- A triangle has been appended. -/
theorem St.tri {g cap : Nat} {t : Ba.Tri} (h : St w base FB BS W V l sv ts) (ho : W1.ownsRow base 108 6 (.slice (some ⟨g, 0, none⟩) (ts.length + 1) cap) (ts.length + 1) (ft ts ++ [.int .i64 t.x0, .int .i64 t.y0, .int .i64 t.x1, .int .i64 t.y1, .int .i64 t.x2, .int .i64 t.y2])) (hgr : W.grownBy W1 sv.ownBlock) (hat : sv.ownBlock = some g ∨ g = W.heap.size) :
    St w base FB BS W1 V l (.slice (some ⟨g, 0, none⟩) (ts.length + 1) cap) (ts ++ [t]) := by
  have hB := own_below h.snd hgr h.hb
  refine ⟨⟨fun k hk => (h.fnd.cel k hk).below hB h.hF.2, h.fnd.fam.kept hgr (fun k hk => h.ap k hk)⟩, ?_, ?_, ?_, ?_, ?_, h.hF⟩
  · rw [ft_app, List.length_append]; exact ho
  · intro k hk
    exact apt_new (h.fnd.row hk) (h.ap k hk) hat
  · intro B hB'
    obtain ⟨p1, p2, p3, p4⟩ := h.pr B hB'
    refine ⟨Nat.lt_of_lt_of_le p1 hgr.size, p2, fun e => ?_, p4⟩
    have e3 : g = B := by simpa [Value.ownBlock] using e
    rcases hat with q | q
    · exact p3 (by rw [q, e3])
    · omega
  · exact Gr.own h.g (by have := h.hF; omega) h.snd hgr
  · exact Nat.le_trans h.hb hgr.size
theorem St.tri_cell {B o : Nat} {v : Value} (h : St w base FB BS W V l sv ts) (hgr : W.grownBy W1 sv.ownBlock) (hB : BS B ∨ B < base) (hc : W.cell? ⟨B, o, none⟩ = some v) : W1.cell? ⟨B, o, none⟩ = some v := by
  refine World.grownBy.cell hgr (a := ⟨B, o, none⟩) hc ?_
  rcases hB with h1 | h1
  · exact fun e => (h.pr B h1).2.2.1 e.symm
  · exact fun e => own_ne h.snd h1 e.symm
theorem St.tri_map {P : Program} {t : TypeId} {B n : Nat} {f : Value → Option Value} (h : St w base FB BS W V l sv ts) (hgr : W.grownBy W1 sv.ownBlock) (hB : BS B) (hm : MapIs P t W B n f) : MapIs P t W1 B n f :=
  hm.grownBy hgr (fun e => (h.pr B hB).2.2.1 e.symm)
end
end Go.Proofs.YtajhhplgcegodaaDoor
