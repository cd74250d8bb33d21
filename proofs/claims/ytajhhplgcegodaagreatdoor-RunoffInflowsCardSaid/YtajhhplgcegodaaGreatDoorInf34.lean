/-
  Runoff: what law 25's examples answer, by reckoning.
  Runoff: law 25's examples, each call.
-/
import Derived.Test.YtajhhplgcegodaaGreatDoorInf32

set_option linter.unusedVariables false
set_option linter.unusedSimpArgs false
namespace Go.Proofs.YtajhhplgcegodaaGreatDoor
open Go.RowKit
namespace Ba
def roofD : Nat → Class := fun _ => ⟨⟨#[114, 111, 111, 102]⟩, 1000, 0, 0, 0⟩
def halfD : Nat → Class := fun _ => ⟨⟨#[104, 97, 108, 102]⟩, 500, 0, 1000000, 0⟩
def exX (l : List Int) (i : Nat) : Int := l.getD i 0
set_option maxRecDepth 100000 in
theorem wake_roof (A A2 A3 : Option Addr) (c b o c2 b2 o2 c3 b3 o3 : Nat) : depE ⟨A, 1, c, b, o, roofD⟩ ⟨A2, 1, c2, b2, o2, exX [100]⟩ ⟨0, 60, ⟨A3, 3, c3, b3, o3, exX [5, 0, 7]⟩⟩ = 0 ∧ ∀ j, j < 3 → out ⟨A, 1, c, b, o, roofD⟩ ⟨A2, 1, c2, b2, o2, exX [100]⟩ ⟨0, 60, ⟨A3, 3, c3, b3, o3, exX [5, 0, 7]⟩⟩ j = exX [500, 0, 700] j := by
  refine ⟨by kernel_rfl, fun j hj => ?_⟩
  rcases (by omega : j = 0 ∨ j = 1 ∨ j = 2) with rfl | rfl | rfl
  · kernel_rfl
  · kernel_rfl
  · kernel_rfl
set_option maxRecDepth 100000 in
theorem wake_half (A A2 A3 : Option Addr) (c b o c2 b2 o2 c3 b3 o3 : Nat) : depE ⟨A, 1, c, b, o, halfD⟩ ⟨A2, 1, c2, b2, o2, exX [1]⟩ ⟨0, 60, ⟨A3, 4, c3, b3, o3, exX [1, 1, 1, 1]⟩⟩ = 0 ∧ ∀ j, j < 4 → out ⟨A, 1, c, b, o, halfD⟩ ⟨A2, 1, c2, b2, o2, exX [1]⟩ ⟨0, 60, ⟨A3, 4, c3, b3, o3, exX [1, 1, 1, 1]⟩⟩ j = exX [0, 1, 0, 1] j := by
  refine ⟨by kernel_rfl, fun j hj => ?_⟩
  rcases (by omega : j = 0 ∨ j = 1 ∨ j = 2 ∨ j = 3) with rfl | rfl | rfl | rfl
  · kernel_rfl
  · kernel_rfl
  · kernel_rfl
  · kernel_rfl
theorem wake_dry : ∀ j, j < 5 → upI (exX [1, 3]) 100 2 (((j + 1 : Nat) : Int) * 21600) - upI (exX [1, 3]) 100 2 ((j : Int) * 21600) = exX [12, 13, 37, 38, 12] j := by
  intro j hj
  rcases (by omega : j = 0 ∨ j = 1 ∨ j = 2 ∨ j = 3 ∨ j = 4) with rfl | rfl | rfl | rfl | rfl
  · kernel_rfl
  · kernel_rfl
  · kernel_rfl
  · kernel_rfl
  · kernel_rfl
theorem wake_uni (A : Option Addr) (c b o : Nat) : uniB ⟨A, 2, c, b, o, exX [1, 3]⟩ = true := by kernel_rfl
theorem wake_name : Dc.isName (⟨#[109]⟩ : ByteArray).data.toList = true := by kernel_rfl
end Ba
end Go.Proofs.YtajhhplgcegodaaGreatDoor
set_option linter.unusedVariables false
set_option linter.unusedSimpArgs false
namespace Go.Proofs.YtajhhplgcegodaaGreatDoor
open Go.RowKit
instance (x : Int) : Decidable (Ba.i64 x) := by unfold Ba.i64; infer_instance
theorem ex_at {w : World} {B n : Nat} {l : List Int} (hn : n ≤ 100) (h : ∀ i, i < n → w.cell? ⟨B, i, none⟩ = some (.int .i64 (Ba.exX l i)) ∧ Ba.i64 (Ba.exX l i)) : Ba.SlI.At w ⟨some ⟨B, 0, none⟩, n, n, B, 0, Ba.exX l⟩ :=
  ⟨fun _ => rfl, Nat.le_refl _, by simp only; omega, fun i hi => by simp only [Nat.zero_add]; exact h i hi⟩
theorem cls_at {w : World} {B : Nat} {d : Ba.Class} (h : d.Cells w B 0) (ho : d.Ok w) : Ba.SlClass.At w ⟨some ⟨B, 0, none⟩, 1, 1, B, 0, fun _ => d⟩ :=
  ⟨fun _ => rfl, Nat.le_refl _, by simp, fun i hi => by
    have : i = 0 := by simp only at hi; omega
    subst this
    exact ⟨by simpa using h, ho⟩⟩
theorem roof_call (B1 B2 B3 : Nat) (W : World) (h : (Ba.roofD 0).Cells W B1 0) (k : W.cell? ⟨B2, 0, none⟩ = some (.int .i64 100)) (m0 : W.cell? ⟨B3, 0, none⟩ = some (.int .i64 5)) (m1 : W.cell? ⟨B3, 1, none⟩ = some (.int .i64 0)) (m2 : W.cell? ⟨B3, 2, none⟩ = some (.int .i64 7)) :
    Calls Tryz.prog 49 #[.slice (some ⟨B1, 0, none⟩) 1 1, .slice (some ⟨B2, 0, none⟩) 1 1, .agg #[.int .i64 0, .int .i64 60, .slice (some ⟨B3, 0, none⟩) 3 3]] W fun e w' => ∃ r : Ba.SlI, e = .returned (.tuple #[.slice r.A r.n r.c, .int .i64 0]) ∧ r.At w' ∧ r.n = 3 ∧ (∀ j, j < 3 → r.X j = Ba.exX [500, 0, 700] j) ∧ Gr W w' := by
  have q := Ba.wake_roof (some ⟨B1, 0, none⟩) (some ⟨B2, 0, none⟩) (some ⟨B3, 0, none⟩) 1 B1 0 1 B2 0 3 B3 0
  have h1 : Ba.SlI.At W ⟨some ⟨B2, 0, none⟩, 1, 1, B2, 0, Ba.exX [100]⟩ := ex_at (by omega) fun i hi => by
    obtain rfl : i = 0 := by omega
    exact ⟨k, by decide⟩
  have h2 : Ba.SlI.At W ⟨some ⟨B3, 0, none⟩, 3, 3, B3, 0, Ba.exX [5, 0, 7]⟩ := ex_at (by omega) fun i hi => by
    rcases (by omega : i = 0 ∨ i = 1 ∨ i = 2) with rfl | rfl | rfl
    · exact ⟨m0, by decide⟩
    · exact ⟨m1, by decide⟩
    · exact ⟨m2, by decide⟩
  refine (dep_any ⟨some ⟨B1, 0, none⟩, 1, 1, B1, 0, Ba.roofD⟩ _ ⟨0, 60, _⟩ W (cls_at h ⟨(by decide : Ba.i64 1000), (by decide : Ba.i64 0), (by decide : Ba.i64 0), (by decide : Ba.i64 0), by decide⟩) h1 ⟨(by decide : Ba.i64 0), (by decide : Ba.i64 60), h2⟩).mono ?_
  rintro e w' ⟨r, r1, r2, r3, -, r5⟩
  rw [q.1] at r1
  obtain ⟨r3a, r3b⟩ := r3 q.1
  exact ⟨r, r1, r2, r3a, fun j hj => (r3b j hj).trans (q.2 j hj), r5⟩
theorem half_call (B1 B2 B3 : Nat) (W : World) (h : (Ba.halfD 0).Cells W B1 0) (k : W.cell? ⟨B2, 0, none⟩ = some (.int .i64 1)) (m0 : W.cell? ⟨B3, 0, none⟩ = some (.int .i64 1)) (m1 : W.cell? ⟨B3, 1, none⟩ = some (.int .i64 1)) (m2 : W.cell? ⟨B3, 2, none⟩ = some (.int .i64 1)) (m3 : W.cell? ⟨B3, 3, none⟩ = some (.int .i64 1)) :
    Calls Tryz.prog 49 #[.slice (some ⟨B1, 0, none⟩) 1 1, .slice (some ⟨B2, 0, none⟩) 1 1, .agg #[.int .i64 0, .int .i64 60, .slice (some ⟨B3, 0, none⟩) 4 4]] W fun e w' => ∃ r : Ba.SlI, e = .returned (.tuple #[.slice r.A r.n r.c, .int .i64 0]) ∧ r.At w' ∧ r.n = 4 ∧ (∀ j, j < 4 → r.X j = Ba.exX [0, 1, 0, 1] j) ∧ Gr W w' := by
  have q := Ba.wake_half (some ⟨B1, 0, none⟩) (some ⟨B2, 0, none⟩) (some ⟨B3, 0, none⟩) 1 B1 0 1 B2 0 4 B3 0
  have h1 : Ba.SlI.At W ⟨some ⟨B2, 0, none⟩, 1, 1, B2, 0, Ba.exX [1]⟩ := ex_at (by omega) fun i hi => by
    obtain rfl : i = 0 := by omega
    exact ⟨k, by decide⟩
  have h2 : Ba.SlI.At W ⟨some ⟨B3, 0, none⟩, 4, 4, B3, 0, Ba.exX [1, 1, 1, 1]⟩ := ex_at (by omega) fun i hi => by
    rcases (by omega : i = 0 ∨ i = 1 ∨ i = 2 ∨ i = 3) with rfl | rfl | rfl | rfl
    · exact ⟨m0, by decide⟩
    · exact ⟨m1, by decide⟩
    · exact ⟨m2, by decide⟩
    · exact ⟨m3, by decide⟩
  refine (dep_any ⟨some ⟨B1, 0, none⟩, 1, 1, B1, 0, Ba.halfD⟩ _ ⟨0, 60, _⟩ W (cls_at h ⟨(by decide : Ba.i64 500), (by decide : Ba.i64 0), (by decide : Ba.i64 1000000), (by decide : Ba.i64 0), by decide⟩) h1 ⟨(by decide : Ba.i64 0), (by decide : Ba.i64 60), h2⟩).mono ?_
  rintro e w' ⟨r, r1, r2, r3, -, r5⟩
  rw [q.1] at r1
  obtain ⟨r3a, r3b⟩ := r3 q.1
  exact ⟨r, r1, r2, r3a, fun j hj => (r3b j hj).trans (q.2 j hj), r5⟩
theorem dry_call (B : Nat) (W : World) (m0 : W.cell? ⟨B, 0, none⟩ = some (.int .i64 1)) (m1 : W.cell? ⟨B, 1, none⟩ = some (.int .i64 3)) :
    Calls Tryz.prog 50 #[.string ⟨#[109]⟩, .int .i64 100, .slice (some ⟨B, 0, none⟩) 2 2, .int .i64 21600, .int .i64 5] W fun e w' => ∃ r : Ba.SlI, e = .returned (.tuple #[.agg #[.string ⟨#[109]⟩, .slice r.A r.n r.c], .int .i64 0]) ∧ r.At w' ∧ r.n = 5 ∧ (∀ j, j < 5 → r.X j = Ba.exX [12, 13, 37, 38, 12] j) ∧ Gr W w' := by
  have h2 : Ba.SlI.At W ⟨some ⟨B, 0, none⟩, 2, 2, B, 0, Ba.exX [1, 3]⟩ := ex_at (by omega) fun i hi => by
    rcases (by omega : i = 0 ∨ i = 1) with rfl | rfl
    · exact ⟨m0, by decide⟩
    · exact ⟨m1, by decide⟩
  refine (dry_any ⟨#[109]⟩ _ 100 21600 5 W (by decide) Ba.wake_name h2 (Ba.wake_uni _ _ _ _) (show (86400 : Int) % ((2 : Nat) : Int) = 0 by decide) (by omega) (by omega) (by omega)).mono ?_
  rintro e w' ⟨r, r1, r2, r3, r4, r5⟩
  exact ⟨r, r1, r2, r3, fun j hj => (r4 j hj).trans (Ba.wake_dry j hj), r5⟩
end Go.Proofs.YtajhhplgcegodaaGreatDoor
