/-
  Runoff.Inflows of what is not right. Typed.
-/
import Derived.Test.YtajhhplgcegodaaGreatDoorInf22

set_option linter.unusedVariables false
set_option linter.unusedSimpArgs false
namespace Go.Proofs.YtajhhplgcegodaaGreatDoor
open Go.RowKit
set_option maxRecDepth 100000 in
set_option maxHeartbeats 4000000 in
theorem inflows_no (m : Ms.Mesh) (C : Ba.SlClass) (P : Ba.SlI) (N : Ba.SlS) (U : Ba.SlU) (s : Ba.Ser) (w : World) (hm : m.At w) (hs : Ms.smB m = false ∨ (m.S.n ≤ 61 ∧ m.F.n ≤ 61)) (hC : C.At w) (hP : P.At w) (hN : N.At w) (hU : U.At w) (hS : s.Ok w) (h : Ba.riE m C P N U s ≠ 0) : Calls Tryz.prog 23 #[m.val, .slice C.A C.n C.c, .slice P.A P.n P.c, .slice N.A N.n N.c, .slice U.A U.n U.c, s.val] w fun e w' => e = .returned (.tuple #[.slice none 0 0, .int .i64 (Ba.riE m C P N U s)]) ∧ Gr w w' := by
  have HR := Lib.hid (fun W (hW : Gr w W) => right_any m C P N U s W ⟨hm.s.gr hW, hm.f.gr hW⟩ hs (hC.gr hW) (hP.gr hW) (hN.gr hW) (hU.gr hW) (hS.gr hW))
  clear hm hs hC hP hN hU hS
  generalize Ba.riE m C P N U s = er at *
  have q0 : (er != 0) = true := bne_iff_ne.2 h
  clear h
  unfold Ms.Mesh.val Ba.Ser.val at *
  generalize m.S.A = sA at *; generalize m.S.n = sn at *; generalize m.S.c = sc at *; generalize m.F.A = fA at *; generalize m.F.n = fn at *; generalize m.F.c = fc at *
  generalize s.fr = fr at *; generalize s.st = st at *; generalize s.ds.A = dA at *; generalize s.ds.n = dn at *; generalize s.ds.c = dc at *
  generalize P.A = pA at *; generalize P.n = pn at *; generalize P.c = pc at *
  generalize C.A = cA at *; generalize C.n = cn at *; generalize C.c = cc at *
  generalize N.A = nA at *; generalize N.n = nn at *; generalize N.c = nc at *
  generalize U.A = uA' at *; generalize U.n = un' at *; generalize U.c = uc' at *
  go_enter Tryz.func23, Tryz.ntmps23
  go_wp2_with fail
  refine (HR.out _ (by exact gr_auto)).mono ?_
  rintro e w1 ⟨rfl, hb1⟩
  have g1 : Gr w w1 := Gr.trans (by exact gr_auto) hb1
  clear HR hb1
  go_wp2_with fail
  go_ret2
  exact ⟨rfl, g1⟩
end Go.Proofs.YtajhhplgcegodaaGreatDoor
