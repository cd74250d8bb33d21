/-
  Alarms: slices of messages in memory. Typed.
  Seat .ZD: Explain: the closure; the reference's Index; the words. Typed.
-/
import Derived.Test.YtllkiadedaghoaaGreatDoorOr10
import Derived.Test.YtllkiadedaghoaaGreatDoorOr11
import Derived.Lib.Join
set_option linter.unusedVariables false
set_option linter.unusedSimpArgs false
namespace Go.Proofs.YtllkiadedaghoaaGreatDoor
open Go.RowKit
namespace Al
/-- A message as Go holds it. -/
structure M.Ok (m : M) : Prop where
  nd : m.nd.size ≤ 9223372036854775807
  nu : Ba.i64 m.nu
  tm : Ba.i64 m.tm
  ar : Ba.i64 m.ar
  lv : Ba.i64 m.lv
def M.Cells (w : World) (b o : Nat) (d : M) : Prop := w.cell? ⟨b, o, none⟩ = some (.string d.nd) ∧ w.cell? ⟨b, o + 1, none⟩ = some (.int .i64 d.nu) ∧ w.cell? ⟨b, o + 2, none⟩ = some (.int .i64 d.tm) ∧ w.cell? ⟨b, o + 3, none⟩ = some (.int .i64 d.ar) ∧ w.cell? ⟨b, o + 4, none⟩ = some (.int .i64 d.lv)
theorem M.Cells.gr {w w1 : World} {b o : Nat} {d : M} (h : d.Cells w b o) (hg : Gr w w1) : d.Cells w1 b o := by
  obtain ⟨h0, h1, h2, h3, h4⟩ := h
  exact ⟨Gr.at hg h0, Gr.at hg h1, Gr.at hg h2, Gr.at hg h3, Gr.at hg h4⟩
structure SlM where
  A : Option Addr
  n : Nat
  c : Nat
  b : Nat
  o : Nat
  D : Nat → M
structure SlM.At (w : World) (s : SlM) : Prop where
  hA : 0 < s.n → s.A = some ⟨s.b, s.o, none⟩
  hc : s.n ≤ s.c
  hb : s.c ≤ 9223372036854775807
  hD : ∀ i, i < s.n → (s.D i).Cells w s.b (s.o + i * 5) ∧ (s.D i).Ok
theorem SlM.At.gr {w w1 : World} {s : SlM} (h : s.At w) (hg : Gr w w1) : s.At w1 := ⟨h.hA, h.hc, h.hb, fun i hi => ⟨(h.hD i hi).1.gr hg, (h.hD i hi).2⟩⟩
/-- The messages of a slice, as a list. -/
def SlM.lst (s : SlM) : List M := (List.range s.n).map s.D
end Al
end Go.Proofs.YtllkiadedaghoaaGreatDoor
set_option linter.unusedVariables false
set_option linter.unusedSimpArgs false
namespace Go.Proofs.YtllkiadedaghoaaGreatDoor
open Go.RowKit Go.Shelf Go.Sort
attribute [local go_sem ↓] Go.wp_at_zero Go.wp_at_succ
namespace Al
/-- Is the message of a node and of a number? -/
def isK (nd : ByteArray) (x : Int) (m : M) : Bool := (m.nd.toList == nd.toList) && m.nu == x
/-- The words of the kinds 1 to 6. -/
def wrd : Int → List UInt8
  | 1 => [108, 111, 119]
  | 2 => [104, 105, 103, 104]
  | 3 => [106, 117, 109, 112]
  | 4 => [102, 114, 111, 122, 101, 110]
  | 5 => [98, 97, 108, 97, 110, 99, 101]
  | _ => [117, 110, 107, 110, 111, 119, 110]
def msgW : List UInt8 := [109, 101, 115, 115, 97, 103, 101, 115]
/-- What is joined: the first n numbers. -/
def decs (X : Nat → Int) (n : Nat) : List (List UInt8) := (List.range n).map fun i => Lib.decDigits (X i).toNat
def numT (X : Nat → Int) (n : Nat) : List UInt8 := ((List.range n).map fun i => 32 :: Lib.decDigits (X i).toNat).flatten
/-- The explanation. -/
def expl (kd : Int) (nd : List UInt8) (L : List UInt8) (X : Nat → Int) (n : Nat) : List UInt8 := wrd kd ++ [32] ++ nd ++ [32] ++ L ++ [32] ++ msgW ++ numT X n
theorem numT_succ (X : Nat → Int) (n : Nat) : numT X (n + 1) = numT X n ++ ([32] ++ Lib.decDigits (X n).toNat) := by
  unfold numT
  rw [List.range_succ, List.map_append, List.flatten_append]
  simp
theorem decs_succ (X : Nat → Int) (n : Nat) : decs X (n + 1) = decs X n ++ [Lib.decDigits (X n).toNat] := by
  unfold decs
  rw [List.range_succ, List.map_append]; rfl
theorem inter_cons (s a b : List UInt8) (r : List (List UInt8)) : s.intercalate (a :: b :: r) = a ++ s ++ s.intercalate (b :: r) := by
  simp [List.intercalate, List.intersperse]
theorem inter_snoc (s a c : List UInt8) : ∀ (r : List (List UInt8)), s.intercalate (a :: r ++ [c]) = s.intercalate (a :: r) ++ (s ++ c)
  | [] => by simp [List.intercalate, List.intersperse]
  | b :: r => by
    rw [List.cons_append, List.cons_append, inter_cons, inter_cons, ← List.cons_append, inter_snoc s b c r]
    simp [List.append_assoc]
theorem join_expl (kd : Int) (nd L : List UInt8) (X : Nat → Int) : ∀ n, Lib.join (wrd kd :: nd :: L :: msgW :: decs X n) [32] = expl kd nd L X n
  | 0 => by simp [Lib.join, decs, expl, numT, List.intercalate, List.intersperse]
  | n + 1 => by
    have ih := join_expl kd nd L X n
    unfold Lib.join at ih ⊢
    rw [decs_succ, show wrd kd :: nd :: L :: msgW :: (decs X n ++ [Lib.decDigits (X n).toNat]) = wrd kd :: (nd :: L :: msgW :: decs X n) ++ [Lib.decDigits (X n).toNat] from rfl, inter_snoc, ih]
    unfold expl
    rw [numT_succ]
    simp [List.append_assoc]
end Al
set_option maxRecDepth 100000 in
set_option maxHeartbeats 4000000 in
theorem exp1_any (m : Al.M) (B K : Nat) (nd : ByteArray) (x : Int) (w : World) (h1 : w.cell? ⟨B, 1, none⟩ = some (.string nd)) (h2 : w.cell? ⟨K, 0, none⟩ = some (.int .i64 x)) : Calls Tryz.prog 27 #[.agg #[.string m.nd, .int .i64 m.nu, .int .i64 m.tm, .int .i64 m.ar, .int .i64 m.lv], .pointer (some ⟨B, 0, none⟩), .pointer (some ⟨K, 0, none⟩)] w fun e w' => e = .returned (.bool (Al.isK nd x m)) ∧ Gr w w' := by
  cases m with | mk mnd mnu mtm mar mlv =>
  simp only [] at *
  have hB : B < w.heap.size := World.block_lt_of_cell? _ _ h1
  have hK : K < w.heap.size := World.block_lt_of_cell? _ _ h2
  have HR := Lib.hid (show Al.isK nd x ⟨mnd, mnu, mtm, mar, mlv⟩ = ((mnd.toList == nd.toList) && (mnu == x)) from rfl)
  generalize Al.isK nd x ⟨mnd, mnu, mtm, mar, mlv⟩ = R at *
  go_enter Tryz.func27, Tryz.ntmps27
  cases t0 : (mnd.toList == nd.toList)
  · rw [t0, Bool.false_and] at HR
    go_wp2_with fail
    go_ret
    exact ⟨ret_bool HR.out.symm, gr_auto⟩
  · rw [t0, Bool.true_and] at HR
    cases t1 : (mnu == x)
    · rw [t1] at HR
      go_wp2_with fail
      go_ret
      exact ⟨ret_bool HR.out.symm, gr_auto⟩
    · rw [t1] at HR
      go_wp2_with fail
      go_ret
      exact ⟨ret_bool HR.out.symm, gr_auto⟩
set_option maxRecDepth 100000 in
set_option maxHeartbeats 4000000 in
theorem rindex_any (s : Al.SlM) (nd : ByteArray) (x : Int) (w : World) (h : s.At w) : Calls Tryz.prog 43 #[.slice s.A s.n s.c, .string nd, .int .i64 x] w fun e w' => e = .returned (.int .i64 (Ba.fstI (fun i => Al.isK nd x (s.D i)) s.n)) ∧ Gr w w' := by
  have hnm : s.n ≤ 9223372036854775807 := Nat.le_trans h.hc h.hb
  have HA := Lib.hid h.hA; have HX := Lib.hid h.hD
  have HP := Lib.hid (fun i => show (fun i => Al.isK nd x (s.D i)) i = (((s.D i).nd.toList == nd.toList) && (s.D i).nu == x) from rfl)
  generalize (fun i => Al.isK nd x (s.D i)) = p at *
  clear h
  cases s with | mk A n c b o D =>
  simp only [] at *
  go_enter Tryz.func43, Tryz.ntmps43
  go_wp2_with fail
  go_loopw [7] (fun y wr => ∃ i : Nat, i ≤ n ∧ y = .int .i64 (i : Int) ∧ Hid (Ba.fst p i = none) ∧ wr = w) (fun y _ => n - (intOf y).toNat)
  case atStart => exact ⟨0, Nat.zero_le _, rfl, Lib.hid rfl, rfl⟩
  case round =>
    obtain ⟨i, hi, rfl, hf, rfl⟩ := hrel
    by_cases hlt : i < n
    · obtain rfl := HA.out (by omega)
      obtain ⟨a0, a1, a2, a3, a4⟩ := (HX.out i hlt).1
      have ib0 : (0 : Int) ≤ (i : Int) := by omega
      have ib1 : (i : Int) < (n : Int) := by omega
      have hpi := HP.out i
      have HS := Lib.hid (fun h => Ba.fst_miss (p := p) hf.out h)
      have HT := Lib.hid (fun h => Ba.fstI_hit (p := p) hf.out h hlt)
      clear HX HA HP
      generalize D i = d at *
      cases t0 : (d.nd.toList == nd.toList)
      · rw [t0, Bool.false_and] at hpi
        have HN := Lib.hid (HS.out hpi)
        clear HS HT hpi hf
        go_wp2_with fail
        go_roundw
        case rel => exact ⟨i + 1, by omega, by go_num, HN, by first | rfl | trivial⟩
        case measure => simp [intOf]; omega
      · rw [t0, Bool.true_and] at hpi
        cases t1 : (d.nu == x)
        · rw [t1] at hpi
          have HN := Lib.hid (HS.out hpi)
          clear HS HT hpi hf
          go_wp2_with fail
          go_roundw
          case rel => exact ⟨i + 1, by omega, by go_num, HN, by first | rfl | trivial⟩
          case measure => simp [intOf]; omega
        · rw [t1] at hpi
          have HN := Lib.hid (HT.out hpi)
          clear HS HT hpi hf
          go_wp2_with fail
          go_ret
          exact ⟨ret_int HN.out.symm, Gr.refl _⟩
    · obtain rfl : i = n := by omega
      have HF := Lib.hid (Ba.fstI_none hf.out)
      clear HX HA HP hf
      go_wp2_with fail
      go_ret
      exact ⟨ret_int HF.out.symm, Gr.refl _⟩
end Go.Proofs.YtllkiadedaghoaaGreatDoor
