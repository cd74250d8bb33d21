import Derived.Test.YtbaahlofabmljaaDoorWdRefM
import Derived.Lib.AppendIntMem
set_option linter.unusedVariables false
set_option linter.unusedSimpArgs false
namespace Go.Proofs.YtbaahlofabmljaaDoor
open Go.RowKit
namespace Dg
theorem nDigits_ge : ∀ n : Nat, 1 ≤ n → 10 ^ (Lib.nDigits n - 1) ≤ n := by
  intro n
  induction n using Nat.strongRecOn with
  | ind n ih =>
    intro h1
    rw [Lib.nDigits]
    split
    · simpa using h1
    · have := ih (n / 10) (by omega) (by omega)
      have p := nDigits_pos (n / 10)
      obtain ⟨j, hj⟩ : ∃ j, Lib.nDigits (n / 10) = j + 1 := ⟨Lib.nDigits (n / 10) - 1, by omega⟩
      rw [hj] at this ⊢
      simp only [Nat.add_sub_cancel] at this ⊢
      rw [Nat.pow_succ]; omega
theorem more {n c k : Nat} (hc : 1 ≤ c) : k < max c (Lib.nDigits n) ↔ (0 < n / 10 ^ k ∨ k < c) := by
  have hp : 0 < 10 ^ k := Nat.pow_pos (by omega)
  have e : 0 < n / 10 ^ k ↔ 10 ^ k ≤ n := by rw [Nat.div_pos_iff]; omega
  rw [e]
  constructor
  · intro h
    by_cases hk : k < c
    · exact Or.inr hk
    · left
      have hd : k < Lib.nDigits n := by omega
      by_cases h1 : 1 ≤ n
      · exact Nat.le_trans (Nat.pow_le_pow_right (by omega) (by omega)) (nDigits_ge n h1)
      · have : n = 0 := by omega
        subst this
        rw [Lib.nDigits] at hd; simp at hd; omega
  · intro h
    rcases h with h | h
    · have := nDigits_lt n
      have : k < Lib.nDigits n := by
        rcases Nat.lt_or_ge k (Lib.nDigits n) with a | a
        · exact a
        · have := Nat.pow_le_pow_right (show 0 < 10 by omega) a; omega
      omega
    · omega
end Dg
theorem bytes_app (a b : List UInt8) : (⟨a.toArray⟩ : ByteArray) ++ ⟨b.toArray⟩ = ⟨(a ++ b).toArray⟩ := by
  apply ByteArray.ext; simp [ByteArray.data_append]
theorem str_eq {a b : List UInt8} (h : a = b) : Ending.returned (.string ⟨a.toArray⟩) = .returned (.string ⟨b.toArray⟩) := by rw [h]
theorem one_byte (W : World) (x : Nat) (hx : x < 256) : (convert 52 9 (.slice (some ⟨W.heap.size, 0, none⟩) 1 1)).run Tryd.prog (W.alloc (.cells #[.int .u8 (x : Int)] 5)) = .ok (.string ⟨#[UInt8.ofNat x]⟩) (W.alloc (.cells #[.int .u8 (x : Int)] 5)) := by
  refine run_convert_bytes_back _ _ _ 5 _ _ [UInt8.ofNat x] Tryd.underlying52 Tryd.underlying5 Tryd.underlying9 fun j hj => ?_
  have : j = 0 := by simpa using hj
  subst this
  have hb : ((UInt8.ofNat x).toNat : Int) = x := by rw [UInt8.toNat_ofNat']; omega
  simp only [List.getElem_cons_zero, hb]
  show World.cell? _ ⟨W.heap.size, 0, none⟩ = _
  rw [World.cell?_alloc_at _ _ _ _ rfl]; rfl
namespace Wd
theorem wz : hi 0 = 0 ∧ lo 0 = 0 ∧ hi 10 = 0 ∧ lo 10 = 10 := by decide
theorem wsmall {q : Int} (h0 : 0 ≤ q) (h1 : q ≤ 18446744073709551615) : hi q = 0 ∧ lo q = q := by
  obtain ⟨a, b⟩ := words h0; rw [a, b]; omega
end Wd
/-- The reference's division by ten. -/
theorem rdiv_ten (q : Nat) (w : World) (hq : q < 340282366920938463463374607431768211456) :
    Calls Tryd.prog 28 #[.agg #[.int .u64 (Wd.hi (q : Int)), .int .u64 (Wd.lo (q : Int))], .agg #[.int .u64 0, .int .u64 10]] w fun e w' => e = .returned (.tuple #[.agg #[.int .u64 (Wd.hi ((q / 10 : Nat) : Int)), .int .u64 (Wd.lo ((q / 10 : Nat) : Int))], .agg #[.int .u64 0, .int .u64 ((q : Int) % 10)]]) ∧ Gr w w' := by
  obtain ⟨z0, z1, z2, z3⟩ := Wd.wz
  have hm : Wd.mag 10 = 10 := by decide
  have hmq : Wd.mag (q : Int) = q := Wd.mag_of_nonneg (by omega)
  have hh := (Wd.words (n := (q : Int)) (by omega)).1
  have := rdiv_any (q : Int) 10 w (by rw [hh]; omega) (by rw [z2]; omega) (by rw [hm]; omega)
  rw [z2, z3, hm, hmq] at this
  obtain ⟨a, b⟩ := Wd.wsmall (q := (q : Int) % 10) (by omega) (by omega)
  rw [a, b] at this
  rw [show ((q / 10 : Nat) : Int) = (q : Int) / 10 by omega]
  exact this
/-- Not both words of a number that is not zero are. -/
theorem Wd.some_word {q : Nat} (h : q ≠ 0) : (Wd.hi (q : Int) == 0) = false ∨ ((Wd.hi (q : Int) == 0) = true ∧ (Wd.lo (q : Int) == 0) = false) := by
  obtain ⟨a, b⟩ := Wd.words (n := (q : Int)) (by omega)
  by_cases hh : Wd.hi (q : Int) = 0
  · right; exact ⟨beq_iff_eq.2 hh, by rw [beq_eq_false_iff_ne]; omega⟩
  · left; rw [beq_eq_false_iff_ne]; exact hh
set_option maxRecDepth 100000 in
set_option maxHeartbeats 4000000 in
theorem rtext_any (h l : Int) (w : World) (hv : Wd.vld h l = true) :
    Calls Tryd.prog 10 #[.agg #[.int .i64 h, .int .i64 l]] w fun e w' => e = .returned (.string ⟨(Wd.txt (Wd.val h l)).toArray⟩) ∧ Gr w w' := by
  obtain ⟨x0, x1⟩ := Wd.val_bounds hv
  obtain ⟨a, b, c, d⟩ := Wd.vld_true hv
  have HO := Lib.hid (fun W => rofwide_any h l W (by omega) (by omega) (by omega) (by omega))
  obtain ⟨z0, z1, -, -⟩ := Wd.wz
  obtain ⟨N, hN⟩ : ∃ N : Nat, Wd.mag (Wd.val h l) = (N : Int) := ⟨(Wd.mag (Wd.val h l)).toNat, by have := Wd.mag_nonneg (Wd.val h l); omega⟩
  have hNb : N ≤ 1329227995784915872903807060280344576 := by
    have : Wd.mag (Wd.val h l) ≤ 1329227995784915872903807060280344576 := by unfold Wd.mag; split <;> omega
    omega
  have e1 : Wd.hi (Wd.val h l) = Wd.hi (N : Int) := by rw [← hN, Wd.hi_mag]
  have e2 : Wd.lo (Wd.val h l) = Wd.lo (N : Int) := by rw [← hN, Wd.lo_mag]
  have hneg : Wd.neg (Wd.val h l) = decide (Wd.val h l < 0) := rfl
  rw [e1, e2, hneg] at HO
  have HT : Hid (Wd.txt (Wd.val h l) = (if Wd.val h l < 0 then [45] else []) ++ Lib.decDigits N) := Lib.hid (by unfold Wd.txt; rw [hN, Int.toNat_natCast])
  have HN0 : Hid (N = 0 → Wd.val h l = 0) := Lib.hid (fun e => Wd.mag_zero.1 (by rw [hN, e]; rfl))
  clear hv a b c d x0 x1 e1 e2 hneg hN
  generalize Wd.val h l = v at *
  by_cases hN1 : N = 0
  · have hv0 := HN0.out hN1
    subst hN1 hv0
    have ht : Wd.txt 0 = [48] := by rw [HT.out]; rw [Lib.decDigits]; rfl
    rw [ht]
    clear HT HN0 ht
    rw [show Wd.hi ((0 : Nat) : Int) = 0 from z0, show Wd.lo ((0 : Nat) : Int) = 0 from z1] at HO
    go_enter Tryd.func10, Tryd.ntmps10
    go_wp2_with (first | (go_at_call 26; refine (HO.out _).mono ?_; rintro e w1 ⟨rfl, hb1⟩; obtain ⟨hc1, hf1⟩ := Gr.cells hb1; have hz1 := Gr.size hb1; (try simp at hz1); (try have hy1_0 : w.heap.size < w1.heap.size := by omega); (try have hy1_1 : w.heap.size + 1 < w1.heap.size := by omega); (try have hy1_2 : w.heap.size + 1 + 1 < w1.heap.size := by omega); (try have hy1_3 : w.heap.size + 1 + 1 + 1 < w1.heap.size := by omega); (try have hy1_4 : w.heap.size + 1 + 1 + 1 + 1 < w1.heap.size := by omega); (try have hy1_5 : w.heap.size + 1 + 1 + 1 + 1 + 1 < w1.heap.size := by omega)))
    go_ret
    exact ⟨rfl, (by repeat' (first | (with_reducible exact Gr.refl _) | (with_reducible assumption) | (with_reducible refine Gr.alloc ?_ _) | (with_reducible refine Gr.drew ?_) | (with_reducible refine Gr.drewN ?_ _) | (with_reducible refine Gr.setCell ?_ ?_ _) | (with_reducible refine Gr.trans ?_ (by with_reducible assumption)) | go_size))⟩
  · clear HN0
    have HM := Lib.hid (fun k => Dg.more (n := N) (c := 1) (k := k) (by omega))
    have HP := Lib.hid (Dg.dec_pd N)
    have hM1 : max 1 (Lib.nDigits N) = Lib.nDigits N := by have := Dg.nDigits_pos N; omega
    rw [hM1] at HM
    have HPC := Lib.hid (fun k => Dg.pd_cons k N)
    have HPL := Lib.hid (fun k => Dg.pd_len k N)
    have hMb : Lib.nDigits N ≤ 37 := Dg.nDigits_le (c := 37) (n := N) (by omega) (by have : (10 : Nat) ^ 37 = 10000000000000000000000000000000000000 := by decide
                                                                                     omega)
    clear hM1
    generalize Lib.nDigits N = M at *
    rcases Wd.some_word hN1 with t1 | ⟨t1, t2⟩
    all_goals
      go_enter Tryd.func10, Tryd.ntmps10
      go_wp2_with (first | (go_at_call 26; refine (HO.out _).mono ?_; rintro e w1 ⟨rfl, hb1⟩; obtain ⟨hc1, hf1⟩ := Gr.cells hb1; have hz1 := Gr.size hb1; (try simp at hz1); (try have hy1_0 : w.heap.size < w1.heap.size := by omega); (try have hy1_1 : w.heap.size + 1 < w1.heap.size := by omega); (try have hy1_2 : w.heap.size + 1 + 1 < w1.heap.size := by omega); (try have hy1_3 : w.heap.size + 1 + 1 + 1 < w1.heap.size := by omega); (try have hy1_4 : w.heap.size + 1 + 1 + 1 + 1 < w1.heap.size := by omega); (try have hy1_5 : w.heap.size + 1 + 1 + 1 + 1 + 1 < w1.heap.size := by omega)))
      go_loopw [4] (fun s4 wr => ∃ j q : Nat, j ≤ M ∧ Hid (q = N / 10 ^ j) ∧ s4 = .string ⟨(Dg.pd N j).toArray⟩ ∧ q ≤ N ∧ Gr w wr ∧ w1.heap.size < wr.heap.size ∧ wr.cell? ⟨w1.heap.size, 0, none⟩ = some (.int .u64 (Wd.hi (q : Int))) ∧ wr.cell? ⟨w1.heap.size, 1, none⟩ = some (.int .u64 (Wd.lo (q : Int))) ∧ wr.cell? ⟨w1.heap.size, 2, none⟩ = some (.bool (decide (v < 0))) ∧ wr.frozen? ⟨w1.heap.size, 0, none⟩ = false ∧ wr.frozen? ⟨w1.heap.size, 1, none⟩ = false) (fun s4 _ => M - (match s4 with | .string s => s.size | _ => 0))
      case atStart => exact ⟨0, N, by omega, Lib.hid (by simp), rfl, Nat.le_refl _, (by repeat' (first | (with_reducible exact Gr.refl _) | (with_reducible assumption) | (with_reducible refine Gr.alloc ?_ _) | (with_reducible refine Gr.drew ?_) | (with_reducible refine Gr.drewN ?_ _) | (with_reducible refine Gr.setCell ?_ ?_ _) | (with_reducible refine Gr.trans ?_ (by with_reducible assumption)) | go_size)), by simp, (by first | (simp [go_sem, *]; done) | ((try simp [go_sem, *]); refine World.cell?_setCell_same' _ _ _ ?_; simp [go_sem, *]; done)), (by first | (simp [go_sem, *]; done) | ((try simp [go_sem, *]); refine World.cell?_setCell_same' _ _ _ ?_; simp [go_sem, *]; done)), (by first | (simp [go_sem, *]; done) | ((try simp [go_sem, *]); refine World.cell?_setCell_same' _ _ _ ?_; simp [go_sem, *]; done)), (by first | (simp [go_sem, *]; done) | ((try simp [go_sem, *]); refine World.cell?_setCell_same' _ _ _ ?_; simp [go_sem, *]; done)), (by first | (simp [go_sem, *]; done) | ((try simp [go_sem, *]); refine World.cell?_setCell_same' _ _ _ ?_; simp [go_sem, *]; done))⟩
      case round =>
        obtain ⟨j, q, hj, hq, rfl, hqN, hg, hsz, c0, c1, c2, f0, f1⟩ := hrel
        clear t1
        try clear t2
        have hmk := HM.out j
        rw [← hq.out] at hmk
        have HPD := Lib.hid (HPC.out j)
        rw [← hq.out] at HPD
        have HLk1 := Lib.hid (HPL.out (j + 1))
        have HLk := Lib.hid (HPL.out j)
        have hl' : (Dg.pd N j).length ≤ 40 := by rw [HLk.out]; omega
        by_cases hq0 : q = 0
        · have hjM : j = M := by
            have hj1 : 1 ≤ j := by
              rcases Nat.eq_zero_or_pos j with e | e
              · subst e; have := hq.out; simp at this; omega
              · exact e
            have : ¬ j < M := fun e => by have := hmk.1 e; omega
            omega
          subst hjM hq0
          clear hmk
          rw [show Wd.hi ((0 : Nat) : Int) = 0 from z0] at c0
          rw [show Wd.lo ((0 : Nat) : Int) = 0 from z1] at c1
          by_cases hv : v < 0
          · have tv : decide (v < 0) = true := decide_eq_true hv
            rw [if_pos hv] at HT
            rw [tv] at c2
            clear hv tv
            go_wp2_with fail
            go_ret
            exact ⟨by rw [HT.out, HP.out]; first | exact congrArg (fun x => Ending.returned (.string x)) (bytes_app [45] _) | exact congrArg (fun x => Ending.returned (.string x)) (bytes_app [45] _).symm | (simp; done), hg⟩
          · have tv : decide (v < 0) = false := decide_eq_false hv
            rw [if_neg hv] at HT
            rw [tv] at c2
            clear hv tv
            go_wp2_with fail
            go_ret
            exact ⟨str_eq (by rw [HT.out, HP.out]; rfl), hg⟩
        · have hjM : j < M := hmk.2 (Or.inl (by omega))
          clear hmk
          have HD := Lib.hid (fun W => rdiv_ten q W (by omega))
          have hqq : Hid (q / 10 = N / 10 ^ (j + 1)) := Lib.hid (by rw [hq.out, Nat.div_div_eq_div_mul, Nat.pow_succ])
          have hq10 : q / 10 ≤ N := by omega
          have hcv : ∀ (W : World) (b : Nat), b = W.heap.size → (convert 52 9 (.slice (some ⟨b, 0, none⟩) 1 1)).run Tryd.prog (W.alloc (.cells #[.int .u8 (48 + (q : Int) % 10)] 5)) = .ok (.string ⟨#[UInt8.ofNat (48 + q % 10)]⟩) (W.alloc (.cells #[.int .u8 (48 + (q : Int) % 10)] 5)) := fun W b hb => by
            subst hb
            have := one_byte W (48 + q % 10) (by omega)
            rw [show ((48 + q % 10 : Nat) : Int) = 48 + (q : Int) % 10 by omega] at this
            exact this
          generalize UInt8.ofNat (48 + q % 10) = dc at *
          rcases Wd.some_word hq0 with u1 | ⟨u1, u2⟩
          all_goals
            clear hq0
            go_wp2_with fail
            refine (HD.out _).mono ?_
            rintro e w2 ⟨rfl, hb2⟩
            have d0 := Gr.at hb2 c0
            have d1 := Gr.at hb2 c1
            have d2 := Gr.at hb2 c2
            have e0 := Gr.free hb2 c0 f0
            have e1 := Gr.free hb2 c1 f1
            have hz2 := Gr.size hb2
            have hz3 : w1.heap.size < w2.heap.size := by omega
            have hz4 : w1.heap.size < w2.heap.size + 1 := by omega
            have hz5 : w1.heap.size < w2.heap.size + 1 + 1 := by omega
            have ne3 : w1.heap.size ≠ w2.heap.size := by omega
            have ne4 : w1.heap.size ≠ w2.heap.size + 1 := by omega
            have ne5 : w1.heap.size ≠ w2.heap.size + 1 + 1 := by omega
            go_wp2_with fail
            go_roundw
            case rel => exact ⟨j + 1, q / 10, by omega, hqq, by rw [HPD.out]; exact congrArg Value.string (by apply ByteArray.ext; simp [ByteArray.data_append]), hq10, (by repeat' (first | (with_reducible exact Gr.refl _) | (with_reducible assumption) | (with_reducible refine Gr.alloc ?_ _) | (with_reducible refine Gr.drew ?_) | (with_reducible refine Gr.drewN ?_ _) | (with_reducible refine Gr.setCell ?_ ?_ _) | (with_reducible refine Gr.trans ?_ (by with_reducible assumption)) | go_size)), by simp; omega, (by first | (simp [go_sem, *]; done) | ((try simp [go_sem, *]); refine World.cell?_setCell_same' _ _ _ ?_; simp [go_sem, *]; done)), (by first | (simp [go_sem, *]; done) | ((try simp [go_sem, *]); refine World.cell?_setCell_same' _ _ _ ?_; simp [go_sem, *]; done)), (by first | (simp [go_sem, *]; done) | ((try simp [go_sem, *]); refine World.cell?_setCell_same' _ _ _ ?_; simp [go_sem, *]; done)), (by first | (simp [go_sem, *]; done) | ((try simp [go_sem, *]); refine World.cell?_setCell_same' _ _ _ ?_; simp [go_sem, *]; done)), (by first | (simp [go_sem, *]; done) | ((try simp [go_sem, *]); refine World.cell?_setCell_same' _ _ _ ?_; simp [go_sem, *]; done))⟩
            case measure => simp [ByteArray.size, Dg.pd_len]; omega
end Go.Proofs.YtbaahlofabmljaaDoor
