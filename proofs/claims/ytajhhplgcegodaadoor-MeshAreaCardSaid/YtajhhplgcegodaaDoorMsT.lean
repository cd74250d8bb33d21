/-
  Surfaces: the reference's Side.
-/
import Derived.Test.YtajhhplgcegodaaDoorMsJ
set_option linter.unusedVariables false
set_option linter.unusedSimpArgs false
namespace Go.Proofs.YtajhhplgcegodaaDoor
open Go.RowKit
namespace Ms
/-- The side t (three to a face) goes from a to b. -/
def sdA (m : Mesh) (a b : Int) (t : Nat) : Bool := cor (m.F.D (t / 3)) (t % 3) == a && cor (m.F.D (t / 3)) (t % 3 + 1) == b
/-- The first side from a to b. -/
def sdO (m : Mesh) (a b : Int) : Option Nat := Ba.fst (sdA m a b) (3 * m.F.n)
def sdV : Option Nat → Value
  | some t => .tuple #[.int .i64 ((t / 3 : Nat) : Int), .int .i64 ((t % 3 : Nat) : Int)]
  | none => .tuple #[.int .i64 (-1), .int .i64 0]
theorem sdA_at (m : Mesh) (a b : Int) {i k : Nat} (hk : k < 3) : sdA m a b (3 * i + k) = (cor (m.F.D i) k == a && cor (m.F.D i) (k + 1) == b) := by
  unfold sdA
  rw [show (3 * i + k) / 3 = i by omega, show (3 * i + k) % 3 = k by omega]
theorem sdO_hit {m : Mesh} {a b : Int} {i k : Nat} (hk : k < 3) (hi : i < m.F.n) (h : Ba.fst (sdA m a b) (3 * i + k) = none) (hp : (cor (m.F.D i) k == a && cor (m.F.D i) (k + 1) == b) = true) : sdV (sdO m a b) = .tuple #[.int .i64 (i : Int), .int .i64 (k : Int)] := by
  unfold sdO
  rw [show 3 * m.F.n = 3 * i + k + 1 + (3 * m.F.n - (3 * i + k + 1)) by omega, Ba.fst_hit h (by rw [sdA_at m a b hk]; exact hp)]
  show Value.tuple #[.int .i64 (((3 * i + k) / 3 : Nat) : Int), .int .i64 (((3 * i + k) % 3 : Nat) : Int)] = _
  rw [show (3 * i + k) / 3 = i by omega, show (3 * i + k) % 3 = k by omega]
theorem sdO_miss {m : Mesh} {a b : Int} {i k : Nat} (hk : k < 3) (h : Ba.fst (sdA m a b) (3 * i + k) = none) (hp : (cor (m.F.D i) k == a && cor (m.F.D i) (k + 1) == b) = false) : Ba.fst (sdA m a b) (3 * i + (k + 1)) = none := by
  rw [← Nat.add_assoc]
  exact Ba.fst_miss h (by rw [sdA_at m a b hk]; exact hp)
end Ms
set_option maxRecDepth 100000 in
set_option maxHeartbeats 4000000 in
theorem rs_side (m : Ms.Mesh) (a b : Int) (w : World) (h : m.F.At w) : Calls Tryd.prog 99 #[m.val, .int .i64 a, .int .i64 b] w fun e w' => e = .returned (Ms.sdV (Ms.sdO m a b)) ∧ Gr w w' := by
  have HFP := Lib.hid (fun i (hi : i < m.F.n) => h.hD i hi)
  have HFA := Lib.hid h.hA
  have hfc := h.hc; have hfb := h.hb
  have HHIT := Lib.hid (fun i k hk hi h hp => Ms.sdO_hit (m := m) (a := a) (b := b) (i := i) (k := k) hk hi h hp)
  have HNO := Lib.hid (fun (h : Ba.fst (Ms.sdA m a b) (3 * m.F.n) = none) => show Ms.sdV (Ms.sdO m a b) = .tuple #[.int .i64 (-1), .int .i64 0] from by unfold Ms.sdO; rw [h]; rfl)
  have HMISS := Lib.hid (fun i k hk h hp => Ms.sdO_miss (m := m) (a := a) (b := b) (i := i) (k := k) hk h hp)
  clear h
  unfold Ms.Mesh.val at *
  generalize m.S.A = sA at *; generalize m.S.n = sn at *; generalize m.S.c = sc at *
  obtain ⟨fA, hfA⟩ : ∃ A, m.F.A = A := ⟨_, rfl⟩; obtain ⟨fn, hfn⟩ : ∃ n, m.F.n = n := ⟨_, rfl⟩; obtain ⟨fc', hfc'⟩ : ∃ c, m.F.c = c := ⟨_, rfl⟩
  rw [hfA, hfn, hfc']
  rw [hfA, hfn] at HFA
  rw [hfn] at HFP HHIT HNO hfc
  rw [hfc'] at hfc hfb
  clear hfA hfn hfc'
  generalize Ms.sdV (Ms.sdO m a b) = RV at *
  generalize Ms.sdA m a b = P at *
  go_enter Tryd.func99, Tryd.ntmps99
  go_wp2_with fail
  have d0 : (w.alloc (Obj.cells #[.slice sA sn sc, .slice fA fn fc'] 25)).cell? ⟨w.heap.size, 1, none⟩ = some (.slice fA fn fc') := by simp [go_sem]
  have g0 := Gr.alloc (Gr.refl w) (Obj.cells #[.slice sA sn sc, .slice fA fn fc'] 25)
  -- @a
  go_loopw [8] (fun x wr => ∃ i : Nat, i ≤ fn ∧ x = .int .i64 (i : Int) ∧ Hid (Ba.fst P (3 * i) = none) ∧ Gr w wr ∧ wr.cell? ⟨w.heap.size, 1, none⟩ = some (.slice fA fn fc')) (fun x _ => fn - (intOf x).toNat)
  case atStart => exact ⟨0, Nat.zero_le _, rfl, Lib.hid rfl, g0, d0⟩
  case round =>
    clear d0 g0
    obtain ⟨i, hi, rfl, HQ, g0, d0⟩ := hrel
    rename World => W1
    by_cases hlt : i < fn
    · obtain rfl := HFA.out (by omega)
      have ib0 : (0 : Int) ≤ (i : Int) := by omega
      have ib1 : (i : Int) < (fn : Int) := by omega
      obtain ⟨⟨a0, a1, a2, a3⟩, fo⟩ := HFP.out i hlt
      replace a0 := Gr.at g0 a0; replace a1 := Gr.at g0 a1; replace a2 := Gr.at g0 a2; replace a3 := Gr.at g0 a3
      have HH := Lib.hid (fun k hk h hp => HHIT.out i k hk hlt h hp); have HM := Lib.hid (fun k hk h hp => HMISS.out i k hk h hp)
      clear HHIT HMISS HNO HFP
      obtain ⟨f, hf⟩ : ∃ f, m.F.D i = f := ⟨_, rfl⟩
      simp only [hf] at a0 a1 a2 a3 HH HM
      clear hf fo
      -- @b
      go_wp2_with fail
      -- @c
      go_loopw [9] (fun x wr => ∃ k : Nat, k ≤ 3 ∧ x = .int .i64 (k : Int) ∧ Hid (Ba.fst P (3 * i + k) = none) ∧ Gr W1 wr) (fun x _ => 3 - (intOf x).toNat)
      case atStart => exact ⟨0, by omega, rfl, HQ, Gr.refl _⟩
      case round =>
        clear HQ
        obtain ⟨k, hk, rfl, HQ, g1⟩ := hrel
        rename World => W2
        by_cases hlk : k < 3
        · have kb0 : (0 : Int) ≤ (k : Int) := by omega
          have kb1 : (k : Int) < 3 := by omega
          have HC1 := Lib.hid (fun W => rs_corner f k (by omega) W); have HC2 := Lib.hid (fun W => rs_corner f (k + 1) (by omega) W)
          replace HH := Lib.hid (fun hp => HH.out k hlk HQ.out hp); replace HM := Lib.hid (fun hp => HM.out k hlk HQ.out hp)
          generalize Ms.cor f k = x at *; generalize Ms.cor f (k + 1) = y at *
          unfold Ba.Face.val at HC1 HC2
          rw [show ((k + 1 : Nat) : Int) = (k : Int) + 1 from by omega] at HC2
          have d1 := Gr.at g1 d0
          replace a0 := Gr.at g1 a0; replace a1 := Gr.at g1 a1; replace a2 := Gr.at g1 a2; replace a3 := Gr.at g1 a3
          clear HQ
          -- @d
          go_wp2_with fail
          -- @e
          refine (HC1.out _).mono ?_
          rintro e w3 ⟨rfl, hb3⟩
          clear HC1
          have d3 := Gr.at hb3 d1
          replace a0 := Gr.at hb3 a0; replace a1 := Gr.at hb3 a1; replace a2 := Gr.at hb3 a2; replace a3 := Gr.at hb3 a3
          clear d1
          cases e1 : (x == a)
          · have HN := Lib.hid (HM.out (by rw [e1]; rfl))
            clear HH HM
            go_wp2_with fail
            -- @f
            go_roundw
            case rel => exact ⟨k + 1, by omega, by go_num, HN, g1.trans hb3⟩
            case measure => simp [intOf]; omega
          · rw [e1] at HH HM
            -- @g
            go_wp2_with fail
            refine (HC2.out _).mono ?_
            rintro e w4 ⟨rfl, hb4⟩
            clear HC2
            cases e2 : (y == b)
            · have HN := Lib.hid (HM.out (by rw [e2]; rfl))
              clear HH HM
              go_wp2_with fail
              -- @h
              go_roundw
              case rel => exact ⟨k + 1, by omega, by go_num, HN, g1.trans (hb3.trans hb4)⟩
              case measure => simp [intOf]; omega
            · have HN := Lib.hid (HH.out (by rw [e2]; rfl))
              clear HH HM
              go_wp2_with fail
              -- @i
              go_ret2
              exact ⟨by rw [HN.out]; rfl, g0.trans (g1.trans (hb3.trans hb4))⟩
        · obtain rfl : k = 3 := by omega
          have HN := Lib.hid (show Ba.fst P (3 * (i + 1)) = none from HQ.out)
          have d1 := Gr.at g1 d0
          go_wp2_with fail
          -- @j
          go_roundw
          case rel => exact ⟨i + 1, by omega, by go_num, HN, g0.trans g1, d1⟩
          case measure => simp [intOf]; omega
    · obtain rfl : fn = i := by omega
      have HN := Lib.hid (HNO.out HQ.out)
      go_wp2_with fail
      -- @k
      go_ret2
      exact ⟨by rw [HN.out]; rfl, g0⟩
end Go.Proofs.YtajhhplgcegodaaDoor
