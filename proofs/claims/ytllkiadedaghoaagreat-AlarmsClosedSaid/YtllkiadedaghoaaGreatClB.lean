/-
  Alarms: AlarmsClosed, the main way. (Printed by mkcla.py.)
-/
import Derived.Test.YtllkiadedaghoaaGreatClA
import Derived.Test.YtllkiadedaghoaaGreatCb20
set_option linter.unusedVariables false
set_option linter.unusedSimpArgs false
namespace Go.Proofs.YtllkiadedaghoaaGreat
open Go.RowKit Go.Shelf Go.Sort
attribute [local go_sem ↓] Go.wp_at_zero Go.wp_at_succ

theorem Al.rng_f {I : Ba.SlI} (h : ∀ j, j < I.n → -1125899906842624 ≤ I.X j ∧ I.X j ≤ 1125899906842624) : Ba.any (fun i => !Ba.bet (I.X i) (-1125899906842624) 1125899906842624) I.n = false := by
  rw [Bool.eq_false_iff, ne_eq, Ba.any_iff]
  rintro ⟨i, hi, e⟩
  have := h i hi
  unfold Ba.bet at e
  simp at e
  omega
theorem Al.rng_t {I : Ba.SlI} {j : Nat} (hj : j < I.n) (h : ¬ (-1125899906842624 ≤ I.X j ∧ I.X j ≤ 1125899906842624)) : Ba.any (fun i => !Ba.bet (I.X i) (-1125899906842624) 1125899906842624) I.n = true := by
  rw [Ba.any_iff]
  refine ⟨j, hj, ?_⟩
  unfold Ba.bet
  simp
  omega
theorem closed_b1 (N : Ba.SlNode) (L : Ba.SlLink) (s : Al.SlM) (nd : ByteArray) (tol kk wr : Int) (w : World) (hN : N.At w) (hL : L.At w) (h : s.At w) (hnd : nd.size ≤ 9223372036854775807) (hk8 : 0 ≤ kk ∧ kk ≤ 255) (hnb : Ba.netB N L = true) (hv : s.vB = true) (r1 : 0 ≤ tol) (r2 : tol ≤ 1099511627776) (k : Nat) (hx : Ba.nix N nd = (k : Int)) (hk : (N.D k).kd ≠ 3) (I : Ba.SlI) (W : World) (hW : Gr w W) (hI : I.At W) (hm : I.n = (Al.ofN s.lst nd).length - 1) (hX : ∀ j, j < I.n → I.X j = Al.dvs (Ba.volN (N.D k)) (fun j => (Al.ofN s.lst nd)[j]!) j) : Calls Tryz.prog 41 #[Ba.netVal N L, .slice s.A s.n s.c, .string nd, .slice I.A I.n I.c, .int .i64 tol] W (Al.RetAe [] 0 W) := by
  have ht : Ba.bet tol 0 1125899906842624 = true := by unfold Ba.bet; simp; omega
  have hr := Al.rng_f (I := I) (fun j hj => by have a := Ba.volN_bd (Ba.net_node hnb (Ba.fstI_is hx).1) hk ((Al.ofN s.lst nd)[j]!).lv; have b := Ba.volN_bd (Ba.net_node hnb (Ba.fstI_is hx).1) hk ((Al.ofN s.lst nd)[j + 1]!).lv; rw [hX j hj]; unfold Al.dvs; simp only []; omega)
  have := bal_ok N L s nd I tol W (hN.gr hW) (hL.gr hW) (h.gr hW) hnd hI hnb hv k hx hk hm hr ht
  rw [Al.balL_closed r1 hX, Al.srt_nil] at this
  exact this
theorem closed_b2 (N : Ba.SlNode) (L : Ba.SlLink) (s : Al.SlM) (nd : ByteArray) (tol kk wr : Int) (w : World) (hN : N.At w) (hL : L.At w) (h : s.At w) (hnd : nd.size ≤ 9223372036854775807) (hk8 : 0 ≤ kk ∧ kk ≤ 255) (hnb : Ba.netB N L = true) (hv : s.vB = true) (r1 : 0 ≤ tol) (r2 : tol ≤ 1099511627776) (k : Nat) (hx : Ba.nix N nd = (k : Int)) (hk : (N.D k).kd ≠ 3) (I : Ba.SlI) (W : World) (hW : Gr w W) (hI : I.At W) (hm : I.n = (Al.ofN s.lst nd).length - 1) (q : Nat) (hq : q < I.n) (hX : ∀ j, j < I.n → j ≠ q → I.X j = Al.dvs (Ba.volN (N.D k)) (fun j => (Al.ofN s.lst nd)[j]!) j) (hX0 : I.X q = Al.dvs (Ba.volN (N.D k)) (fun j => (Al.ofN s.lst nd)[j]!) q + wr) (hb : -1125899906842624 ≤ I.X q ∧ I.X q ≤ 1125899906842624) : Calls Tryz.prog 41 #[Ba.netVal N L, .slice s.A s.n s.c, .string nd, .slice I.A I.n I.c, .int .i64 tol] W (Al.RetAe (Al.jumpIf tol wr (Al.alm 5 [(Al.ofN s.lst nd)[q]!, (Al.ofN s.lst nd)[q + 1]!])) 0 W) := by
  have ht : Ba.bet tol 0 1125899906842624 = true := by unfold Ba.bet; simp; omega
  have hr := Al.rng_f (I := I) (fun j hj => by
    by_cases e : j = q
    · rw [e]; exact hb
    · have a := Ba.volN_bd (Ba.net_node hnb (Ba.fstI_is hx).1) hk ((Al.ofN s.lst nd)[j]!).lv; have b := Ba.volN_bd (Ba.net_node hnb (Ba.fstI_is hx).1) hk ((Al.ofN s.lst nd)[j + 1]!).lv; rw [hX j hj e]; unfold Al.dvs; simp only []; omega)
  have := bal_ok N L s nd I tol W (hN.gr hW) (hL.gr hW) (h.gr hW) hnd hI hnb hv k hx hk hm hr ht
  rw [Al.balL_one r1 hX0 hq hX, Al.srt_jumpIf] at this
  exact this
theorem closed_b3 (N : Ba.SlNode) (L : Ba.SlLink) (s : Al.SlM) (nd : ByteArray) (tol kk wr : Int) (w : World) (hN : N.At w) (hL : L.At w) (h : s.At w) (hnd : nd.size ≤ 9223372036854775807) (hk8 : 0 ≤ kk ∧ kk ≤ 255) (hnb : Ba.netB N L = true) (hv : s.vB = true) (r1 : 0 ≤ tol) (r2 : tol ≤ 1099511627776) (k : Nat) (hx : Ba.nix N nd = (k : Int)) (hk : (N.D k).kd ≠ 3) (I : Ba.SlI) (W : World) (hW : Gr w W) (hI : I.At W) (hm : I.n = (Al.ofN s.lst nd).length - 1) (q : Nat) (hq : q < I.n) (hb : ¬ (-1125899906842624 ≤ I.X q ∧ I.X q ≤ 1125899906842624)) : Calls Tryz.prog 41 #[Ba.netVal N L, .slice s.A s.n s.c, .string nd, .slice I.A I.n I.c, .int .i64 tol] W fun e w' => e = .returned (.tuple #[.slice none 0 0, .int .i64 2]) ∧ Gr W w' :=
  bal_rng1 N L s nd I tol W (hN.gr hW) (hL.gr hW) (h.gr hW) hnd hI hnb hv k hx hk hm (Al.rng_t hq hb)
/-- One alarm of two messages, as a call answers it. -/
theorem Al.one_at {r : Al.SlA} {w : World} {a b : Al.M} (h : r.At w) (hc : r.con = [Al.alm 5 [a, b]]) : r.n = 1 ∧ ∃ (P : Option Addr) (pb po pc : Nat), r.A = some ⟨r.b, r.o, none⟩ ∧ w.cell? ⟨r.b, r.o, none⟩ = some (.int .i64 5) ∧ w.cell? ⟨r.b, r.o + 2, none⟩ = some (.int .i64 b.tm) ∧ w.cell? ⟨r.b, r.o + 3, none⟩ = some (.slice P 2 pc) ∧ P = some ⟨pb, po, none⟩ ∧ w.cell? ⟨pb, po, none⟩ = some (.int .i64 a.nu) ∧ w.cell? ⟨pb, po + 1, none⟩ = some (.int .i64 b.nu) := by
  have hn : r.n = 1 := by rw [← r.con_len, hc]; rfl
  refine ⟨hn, ?_⟩
  have hA := h.hA (by omega)
  obtain ⟨⟨c0, c1, c2, c3⟩, ho⟩ := h.hD 0 (by omega)
  have hD : (r.D 0).con = Al.alm 5 [a, b] := by
    have := hc
    unfold Al.SlA.con at this
    rw [hn] at this
    simpa using this
  have hat := ho.at'
  generalize r.D 0 = d at *
  cases d with | mk kd nd tm p db do_ n c X =>
  unfold Al.A.con Al.alm at hD
  simp only [Al.C.mk.injEq] at hD
  obtain ⟨e0, e1, e2, e3⟩ := hD
  have e4 := congrArg List.length e3
  simp [Al.lst] at e4
  subst e4
  simp [Al.lst, List.range_succ] at e3
  simp only [Nat.zero_mul, Nat.add_zero] at c0 c1 c2 c3
  subst e0
  rw [show ([a, b].getLast?.getD default) = b from rfl] at e2
  subst e2
  have x0 := hat.hX 0 (by show 0 < 2; omega)
  have x1 := hat.hX 1 (by show 1 < 2; omega)
  simp only [Nat.add_zero, e3.1, e3.2] at x0 x1
  exact ⟨p, db, do_, c, hA, c0, c2, c3, hat.hp (by show 0 < 2; omega), x0, x1⟩

end Go.Proofs.YtllkiadedaghoaaGreat
