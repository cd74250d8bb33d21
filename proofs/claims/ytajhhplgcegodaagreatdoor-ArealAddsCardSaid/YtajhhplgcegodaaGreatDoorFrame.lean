/-
  The frame that all laws of this seat share: a call that returns true, and in whose world all that was there is as it was, meets a law's row.
-/
import Derived.Test.YtajhhplgcegodaaGreatDoorGr
import Derived.ProofKit
import Derived.OpenShut
import Derived.Lib.SmallJoins
import Derived.LaidMore
import Derived.Lay
import Derived.SevenTiedAt
import Derived.Stop.Joined
set_option linter.unusedVariables false
set_option linter.unusedSimpArgs false
namespace Go.Proofs.YtajhhplgcegodaaGreatDoor
open Go.ChangeShapes Go.WideShapes Go.ChangeAt Go.RowKit
theorem fr_own : ownKnob Tryz.prog.godebug = none := by kernel_rfl
theorem fr_laid : laidOutB Tryz.prog = true := by kernel_rfl
/-- All arguments read behind the call as before. -/
theorem fr_args {H : Type} {enc : TypeId × Value → H} {W W' : World} (hb : Below W.heap.size W W') : ∀ (ts : List TypeId) (vs : List Value) (ds : List (DataW H)) (ps : List MemPlace),
    (∀ t ∈ ts, Tryz.prog.readableRec t = true ∧ t < Tryz.prog.types.size) → (∀ x ∈ ps, x.block < W.heap.size) →
    DataW.TrodAll enc Tryz.prog W 0 (fun _ => true) true ts vs ds ps → DataW.TrodAll enc Tryz.prog W' 0 (fun b => decide (b < W.heap.size)) true ts vs ds ps
  | [], [], [], [], _, _, h => h
  | [], [], [], _ :: _, _, _, h => by cases h
  | [], [], _ :: _, _, _, _, h => by cases h
  | [], _ :: _, _, _, _, _, h => by cases h
  | t :: ts, vs, ds, ps, hr, hl, h => by
    obtain ⟨v, vs', d, ds', p, q, rfl, rfl, rfl, h0, r0⟩ := trodAll_cons h
    have k1 := Below.trod fr_laid (hr t (by simp)).1 (hr t (by simp)).2 h0 hb (fun x hx => hl x (List.mem_append.2 (.inl hx)))
    have k2 := fr_args hb ts vs' ds' q (fun t' ht' => hr t' (by simp [ht'])) (fun x hx => hl x (List.mem_append.2 (.inr hx))) r0
    exact trodAll_cons_mk k1 k2
end Go.Proofs.YtajhhplgcegodaaGreatDoor
