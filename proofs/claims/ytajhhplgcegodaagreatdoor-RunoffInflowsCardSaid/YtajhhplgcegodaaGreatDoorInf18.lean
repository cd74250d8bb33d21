/-
  DERIVED: THE SHELF's CONTRACTS AT THIS DUMP, IN PLAIN WORDS (tools/lay-plain.mjs out of 'TryzShelf.lean', which tools/lay-shelf.mjs wrote): THE SAME DECLARATIONS UNDER THE SAME NAMES: 'import', 'namespace', 'open', 'def', 'theorem' AND NOTHING ELSE: no command of the shelf's: FOR A HAND-IN. Each laying: the table of numbers ('.._ren') and one theorem, a field a fact of the dump's own or the kernel's comparison; each contract: ONE APPLICATION.
  Surfaces: the functions that mesh.Check makes of its own, and the test of sizes; strconv.Itoa of small numbers. (Printed by mke.py.)
-/
import Derived.Test.YtajhhplgcegodaaGreatDoorProg
import Derived.Test.YtajhhplgcegodaaGreatDoorInf17
import Derived.Test.YtajhhplgcegodaaGreatDoorInf08
import Derived.Shelf.Small.Bits
import Derived.Shelf.Strconv.Itoa0
import Derived.Shelf.Strconv.Itoa1
import Derived.Shelf.LaysM
import Derived.Shelf.Strconv.Itoa2
import Derived.Shelf.Strconv.Itoa3
import Derived.Shelf.Bits.Mul64
import Derived.Ground.Names2Prog
import Derived.Shelf.Slices.Clone
import Derived.Ground.SlgnProg
import Derived.Shelf.SlicesE.Clone
namespace Go.Proofs
open Go.Shelf
def Tryz.lays171_ren : Go.Shelf.Ren := ⟨fun | 171 => 137 | 243 => 170 | 246 => 184 | 283 => 188 | 284 => 189 | 285 => 190 | 286 => 191 | 129 => 186 | 317 => 192 | 318 => 193 | 319 => 194 | 320 => 195 | 337 => 196 | 338 => 197 | n => n, fun | 3 => 3 | 9 => 9 | 2 => 2 | 4 => 4 | 171 => 216 | 0 => 0 | 53 => 150 | 37 => 180 | 5 => 5 | 173 => 218 | 212 => 221 | 51 => 222 | 20 => 20 | 213 => 223 | 46 => 208 | 232 => 226 | 233 => 227 | n => n, fun | 17 => 2 | 18 => 3 | 19 => 4 | n => n⟩
theorem Tryz.lays171 : Go.Proofs.Lays.n171 Tryz.prog Tryz.lays171_ren := {
  mixed := by kernel_rfl
  f129 := Tryz.func186.trans (congrArg some (by kernel_rfl))
  f171 := Tryz.func137.trans (congrArg some (by kernel_rfl))
  f243 := Tryz.func170.trans (congrArg some (by kernel_rfl))
  f246 := Tryz.func184.trans (congrArg some (by kernel_rfl))
  f283 := Tryz.func188.trans (congrArg some (by kernel_rfl))
  f284 := Tryz.func189.trans (congrArg some (by kernel_rfl))
  f285 := Tryz.func190.trans (congrArg some (by kernel_rfl))
  f286 := Tryz.func191.trans (congrArg some (by kernel_rfl))
  f317 := Tryz.func192.trans (congrArg some (by kernel_rfl))
  f318 := Tryz.func193.trans (congrArg some (by kernel_rfl))
  f319 := Tryz.func194.trans (congrArg some (by kernel_rfl))
  f320 := Tryz.func195.trans (congrArg some (by kernel_rfl))
  f337 := Tryz.func196.trans (congrArg some (by kernel_rfl))
  f338 := Tryz.func197.trans (congrArg some (by kernel_rfl))
  t0 := Tryz.underlying0
  a0 := Tryz.isAgg0
  z0 := Tryz.sizeOf0
  v0 := Tryz.zeroValue0
  t2 := Tryz.underlying2
  a2 := Tryz.isAgg2
  z2 := Tryz.sizeOf2
  v2 := Tryz.zeroValue2
  t3 := Tryz.underlying3
  a3 := Tryz.isAgg3
  z3 := Tryz.sizeOf3
  v3 := Tryz.zeroValue3
  t4 := Tryz.underlying4
  a4 := Tryz.isAgg4
  z4 := Tryz.sizeOf4
  v4 := Tryz.zeroValue4
  t5 := Tryz.underlying5
  a5 := Tryz.isAgg5
  z5 := Tryz.sizeOf5
  v5 := Tryz.zeroValue5
  t9 := Tryz.underlying9
  a9 := Tryz.isAgg9
  z9 := Tryz.sizeOf9
  v9 := Tryz.zeroValue9
  t20 := Tryz.underlying20
  a20 := Tryz.isAgg20
  z20 := Tryz.sizeOf20
  v20 := Tryz.zeroValue20
  t37 := Tryz.underlying180
  a37 := Tryz.isAgg180
  z37 := Tryz.sizeOf180
  v37 := Tryz.zeroValue180
  t46 := Tryz.underlying208
  a46 := Tryz.isAgg208
  z46 := Tryz.sizeOf208
  v46 := Tryz.zeroValue208
  t51 := Tryz.underlying222
  a51 := Tryz.isAgg222
  z51 := Tryz.sizeOf222
  v51 := Tryz.zeroValue222
  t53 := Tryz.underlying150
  a53 := Tryz.isAgg150
  z53 := Tryz.sizeOf150
  v53 := Tryz.zeroValue150
  t171 := Tryz.underlying216
  a171 := Tryz.isAgg216
  z171 := Tryz.sizeOf216
  v171 := Tryz.zeroValue216
  t173 := Tryz.underlying218
  a173 := Tryz.isAgg218
  z173 := Tryz.sizeOf218
  v173 := Tryz.zeroValue218
  t212 := Tryz.underlying221
  a212 := Tryz.isAgg221
  z212 := Tryz.sizeOf221
  v212 := Tryz.zeroValue221
  t213 := Tryz.underlying223
  a213 := Tryz.isAgg223
  z213 := Tryz.sizeOf223
  t232 := Tryz.underlying226
  a232 := Tryz.isAgg226
  z232 := Tryz.sizeOf226
  v232 := Tryz.zeroValue226
  t233 := Tryz.underlying227
  a233 := Tryz.isAgg227
  z233 := Tryz.sizeOf227
  v233 := Tryz.zeroValue227
  g17 := by kernel_rfl
  g18 := by kernel_rfl
  g19 := by kernel_rfl }
open Go.RowKit Go.Sort Go.Lib in
/-- THE ROAD WITHOUT THE TABLE: 0 <= i < 100: NO PREMISE ON THE WORLD, AND THE WORLD IS AS IT WAS: a row that keeps its argument in that range need list no table ('laid = []'). (LAID: no walk: one application.) -/
theorem Tryz.strconv_Itoa_small (i : Nat) (hi : i < 100) (w : World) :
    Calls Tryz.prog 137 #[.int .i64 i] w fun e w' => e = .returned (.string ⟨(Lib.decDigits i).toArray⟩) ∧ w' = w := Any.strconv_Itoa_small Tryz.lays171 i hi w
end Go.Proofs
set_option linter.unusedVariables false
set_option linter.unusedSimpArgs false
namespace Go.Proofs.YtajhhplgcegodaaGreatDoor
open Go.RowKit
attribute [local go_sem ↓] Go.wp_at_zero Go.wp_at_succ
theorem ms_enter {P : Program} {f : FuncId} {fn : Func} (hf : P.funcs[f]? = some fn) (hn : (fn.name == "runtime.NumGoroutine") = false) (hb : fn.body.isNone = false) (args : Array Value) (w : World) :
    (callFunc f args).run P w = .ok (.enter f args) w := by
  have h1 : fn.name ≠ "runtime.NumGoroutine" := by simpa using hn
  have h2 : fn.body ≠ none := fun h => by rw [h] at hb; exact absurd hb (by decide)
  simp [callFunc, hf, h1, h2]
theorem itoa_small (n : Nat) (hn : n < 100) (w : World) : Calls Tryz.prog 137 #[.int .i64 (n : Int)] w fun e w' => e = .returned (.string ⟨(Lib.decDigits n).toArray⟩) ∧ w = w' :=
  (Tryz.strconv_Itoa_small n hn w).mono fun e w' ⟨he, hw⟩ => ⟨he, hw.symm⟩
set_option maxRecDepth 100000 in
set_option maxHeartbeats 4000000 in
theorem ms_ck1 (m : Ms.Mesh) (x : Int) (MB BF G : Nat) (w : World) (hm : m.S.n ≤ 9223372036854775807) (h0 : w.cell? ⟨MB, 0, none⟩ = some (.slice m.S.A m.S.n m.S.c)) (h1 : w.cell? ⟨BF, 0, none⟩ = some (.slice (some ⟨G, 0, none⟩) m.S.n m.S.n)) (hr : ∀ j, j < m.S.n → w.cell? ⟨G, j, none⟩ = some (.bool (!Ms.spB (m.S.D j)))) :
    Calls Tryz.prog 130 #[.int .i64 x, .pointer (some ⟨MB, 0, none⟩), .pointer (some ⟨BF, 0, none⟩)] w fun e w' => e = .returned (.bool (!Ms.inR m x)) ∧ Gr w w' := by
  unfold Ms.inR
  have HR := Lib.hid hr
  clear hr
  by_cases c1 : x < 0
  · have t1 : decide (x < 0) = true := decide_eq_true c1
    rw [decide_eq_false (by omega : ¬ 0 ≤ x)]
    clear HR h1 c1
    generalize m.S.A = A at *; generalize m.S.n = n at *; generalize m.S.c = c at *
    go_enter Tryz.func130, Tryz.ntmps130
    go_wp2_with fail
    go_ret
    exact ⟨rfl, gr_auto⟩
  have t1 : decide (x < 0) = false := decide_eq_false c1
  obtain ⟨i, rfl⟩ : ∃ i : Nat, x = (i : Int) := ⟨x.toNat, by omega⟩
  rw [decide_eq_true (by omega : (0 : Int) ≤ (i : Int)), Int.toNat_natCast]
  by_cases c2 : i < m.S.n
  · have t2 : decide ((m.S.n : Int) ≤ (i : Int)) = false := decide_eq_false (by omega)
    have t3 : decide (m.S.n ≤ i) = false := decide_eq_false (by omega)
    rw [decide_eq_true (by omega : (i : Int) < (m.S.n : Int))]
    have c := HR.out i c2
    have i0 : (0 : Int) ≤ (i : Int) := by omega
    have i1 : (i : Int) < (m.S.n : Int) := by omega
    clear HR c1
    generalize Ms.spB (m.S.D i) = q at *
    generalize m.S.A = A at *; generalize m.S.n = n at *; generalize m.S.c = c at *
    go_enter Tryz.func130, Tryz.ntmps130
    go_wp2_with fail
    go_ret
    exact ⟨by cases q <;> rfl, gr_auto⟩
  · have t2 : decide ((m.S.n : Int) ≤ (i : Int)) = true := decide_eq_true (by omega)
    have t3 : decide (m.S.n ≤ i) = true := decide_eq_true (by omega)
    rw [decide_eq_false (by omega : ¬ (i : Int) < (m.S.n : Int))]
    clear HR h1 c1 c2
    generalize m.S.A = A at *; generalize m.S.n = n at *; generalize m.S.c = c at *
    go_enter Tryz.func130, Tryz.ntmps130
    go_wp2_with fail
    go_ret
    exact ⟨rfl, gr_auto⟩
set_option maxRecDepth 100000 in
set_option maxHeartbeats 4000000 in
theorem ms_ck2 (t u : Ms.Tri) (TB : Nat) (w : World) (ht : Ms.tOk t) (hu : Ms.tOk u) (hc : t.Cells w TB 0) : Calls Tryz.prog 135 #[u.val, .pointer (some ⟨TB, 0, none⟩)] w fun e w' => e = .returned (.bool (Ms.ovB t u)) ∧ Gr w w' := by
  have H1 := Lib.hid (fun W => ms_sep t u W ht hu); have H2 := Lib.hid (fun W => ms_sep u t W hu ht)
  unfold Ms.ovB
  obtain ⟨tx0, ty0, tx1, ty1, tx2, ty2⟩ := t
  obtain ⟨ux0, uy0, ux1, uy1, ux2, uy2⟩ := u
  unfold Ba.Tri.val at *
  obtain ⟨c0, c1, c2, c3, c4, c5⟩ := hc
  simp only [Nat.zero_add] at *
  clear ht hu
  generalize Ms.sepB ⟨tx0, ty0, tx1, ty1, tx2, ty2⟩ ⟨ux0, uy0, ux1, uy1, ux2, uy2⟩ = p at *
  generalize Ms.sepB ⟨ux0, uy0, ux1, uy1, ux2, uy2⟩ ⟨tx0, ty0, tx1, ty1, tx2, ty2⟩ = q at *
  have hT : TB < w.heap.size := World.block_lt_of_cell? _ _ c0
  have hT2 : TB ≠ w.heap.size := by omega
  go_enter Tryz.func135, Tryz.ntmps135
  go_wp2_with fail
  (first | refine name_world ?_ | refine (show (∀ W, W = _ → Calls _ _ _ W _) → Calls _ _ _ _ _ from fun h => h _ rfl) ?_); intro W1 hW1
  have g1 : Gr w W1 := by rw [hW1]; exact gr_auto
  have k1_0 : W1.cell? ⟨w.heap.size, 0, none⟩ = some (.int .i64 ux0) := by rw [hW1]; first | (simp [go_sem, *]; done) | (refine Gr.at ?_ (by assumption); exact gr_auto)
  have b1_0 : w.heap.size < W1.heap.size := World.block_lt_of_cell? _ _ k1_0
  have k1_1 : W1.cell? ⟨w.heap.size, 1, none⟩ = some (.int .i64 uy0) := by rw [hW1]; first | (simp [go_sem, *]; done) | (refine Gr.at ?_ (by assumption); exact gr_auto)
  have k1_2 : W1.cell? ⟨w.heap.size, 2, none⟩ = some (.int .i64 ux1) := by rw [hW1]; first | (simp [go_sem, *]; done) | (refine Gr.at ?_ (by assumption); exact gr_auto)
  have k1_3 : W1.cell? ⟨w.heap.size, 3, none⟩ = some (.int .i64 uy1) := by rw [hW1]; first | (simp [go_sem, *]; done) | (refine Gr.at ?_ (by assumption); exact gr_auto)
  have k1_4 : W1.cell? ⟨w.heap.size, 4, none⟩ = some (.int .i64 ux2) := by rw [hW1]; first | (simp [go_sem, *]; done) | (refine Gr.at ?_ (by assumption); exact gr_auto)
  have k1_5 : W1.cell? ⟨w.heap.size, 5, none⟩ = some (.int .i64 uy2) := by rw [hW1]; first | (simp [go_sem, *]; done) | (refine Gr.at ?_ (by assumption); exact gr_auto)
  have k1_6 : W1.cell? ⟨TB, 0, none⟩ = some (.int .i64 tx0) := by rw [hW1]; first | (simp [go_sem, *]; done) | (refine Gr.at ?_ (by assumption); exact gr_auto)
  have b1_6 : TB < W1.heap.size := World.block_lt_of_cell? _ _ k1_6
  have k1_7 : W1.cell? ⟨TB, 1, none⟩ = some (.int .i64 ty0) := by rw [hW1]; first | (simp [go_sem, *]; done) | (refine Gr.at ?_ (by assumption); exact gr_auto)
  have k1_8 : W1.cell? ⟨TB, 2, none⟩ = some (.int .i64 tx1) := by rw [hW1]; first | (simp [go_sem, *]; done) | (refine Gr.at ?_ (by assumption); exact gr_auto)
  have k1_9 : W1.cell? ⟨TB, 3, none⟩ = some (.int .i64 ty1) := by rw [hW1]; first | (simp [go_sem, *]; done) | (refine Gr.at ?_ (by assumption); exact gr_auto)
  have k1_10 : W1.cell? ⟨TB, 4, none⟩ = some (.int .i64 tx2) := by rw [hW1]; first | (simp [go_sem, *]; done) | (refine Gr.at ?_ (by assumption); exact gr_auto)
  have k1_11 : W1.cell? ⟨TB, 5, none⟩ = some (.int .i64 ty2) := by rw [hW1]; first | (simp [go_sem, *]; done) | (refine Gr.at ?_ (by assumption); exact gr_auto)
  clear hW1
  refine (H1.out _).mono ?_
  rintro e w2 ⟨rfl, hb2⟩
  clear H1
  replace k1_0 := Gr.at hb2 k1_0
  replace k1_1 := Gr.at hb2 k1_1
  replace k1_2 := Gr.at hb2 k1_2
  replace k1_3 := Gr.at hb2 k1_3
  replace k1_4 := Gr.at hb2 k1_4
  replace k1_5 := Gr.at hb2 k1_5
  replace k1_6 := Gr.at hb2 k1_6
  replace k1_7 := Gr.at hb2 k1_7
  replace k1_8 := Gr.at hb2 k1_8
  replace k1_9 := Gr.at hb2 k1_9
  replace k1_10 := Gr.at hb2 k1_10
  replace k1_11 := Gr.at hb2 k1_11
  have g2 := g1.trans hb2
  cases p
  · clear c0 c1 c2 c3 c4 c5
    go_wp2_with fail
    refine (H2.out _).mono ?_
    rintro e w3 ⟨rfl, hb3⟩
    clear H2
    go_wp2_with fail
    go_ret
    exact ⟨rfl, g2.trans hb3⟩
  · clear c0 c1 c2 c3 c4 c5 H2
    go_wp2_with fail
    go_ret
    exact ⟨rfl, g2⟩
set_option maxRecDepth 100000 in
set_option maxHeartbeats 4000000 in
theorem ms_small (m : Ms.Mesh) (w : World) : Calls Tryz.prog 126 #[m.val] w fun e w' => e = .returned (.bool (Ms.smB m)) ∧ Gr w w' := by
  unfold Ms.smB Ms.Mesh.val
  generalize m.S.A = sA at *; generalize m.S.n = sn at *; generalize m.S.c = sc at *; generalize m.F.A = fA at *; generalize m.F.n = fn at *; generalize m.F.c = fc at *
  rw [show decide (sn ≤ 2000) = decide ((sn : Int) ≤ 2000) from decide_eq_decide.2 (by omega), show decide (fn ≤ 4000) = decide ((fn : Int) ≤ 4000) from decide_eq_decide.2 (by omega)]
  cases q1 : decide ((sn : Int) ≤ 2000)
  · go_enter Tryz.func126, Tryz.ntmps126
    go_wp2_with fail
    go_ret
    exact ⟨rfl, gr_auto⟩
  · cases q2 : decide ((fn : Int) ≤ 4000)
    · go_enter Tryz.func126, Tryz.ntmps126
      go_wp2_with fail
      go_ret
      exact ⟨rfl, gr_auto⟩
    · go_enter Tryz.func126, Tryz.ntmps126
      go_wp2_with fail
      go_ret
      exact ⟨rfl, gr_auto⟩
set_option maxRecDepth 100000 in
set_option maxHeartbeats 4000000 in
theorem rs_small (m : Ms.Mesh) (w : World) : Calls Tryz.prog 42 #[m.val] w fun e w' => e = .returned (.bool (Ms.smB m)) ∧ Gr w w' := by
  unfold Ms.smB Ms.Mesh.val
  generalize m.S.A = sA at *; generalize m.S.n = sn at *; generalize m.S.c = sc at *; generalize m.F.A = fA at *; generalize m.F.n = fn at *; generalize m.F.c = fc at *
  rw [show decide (sn ≤ 2000) = decide ((sn : Int) ≤ 2000) from decide_eq_decide.2 (by omega), show decide (fn ≤ 4000) = decide ((fn : Int) ≤ 4000) from decide_eq_decide.2 (by omega)]
  cases q1 : decide ((sn : Int) ≤ 2000)
  · go_enter Tryz.func42, Tryz.ntmps42
    go_wp2_with fail
    go_ret
    exact ⟨rfl, gr_auto⟩
  · cases q2 : decide ((fn : Int) ≤ 4000)
    · go_enter Tryz.func42, Tryz.ntmps42
      go_wp2_with fail
      go_ret
      exact ⟨rfl, gr_auto⟩
    · go_enter Tryz.func42, Tryz.ntmps42
      go_wp2_with fail
      go_ret
      exact ⟨rfl, gr_auto⟩
end Go.Proofs.YtajhhplgcegodaaGreatDoor
