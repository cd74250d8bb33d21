import Derived.Test.YtagfgnpjljaefaaDoorDcRefE
set_option linter.unusedVariables false
set_option linter.unusedSimpArgs false
namespace Go.Proofs.YtagfgnpjljaefaaDoor
open Go.RowKit
/-- With the place of the token that is read, at A. -/
def AtSt (w : World) (A : Nat) (ln col : Int) (w' : World) : Prop := RkSt w w' ∧ w'.cell? ⟨A, 0, none⟩ = some (.int .i64 ln) ∧ w'.cell? ⟨A, 1, none⟩ = some (.int .i64 col)
theorem AtSt.gr {w W W' : World} {A : Nat} {ln col : Int} (h : AtSt w A ln col W) (hg : Gr W W') : AtSt w A ln col W' := ⟨h.1.gr hg, Gr.at hg h.2.1, Gr.at hg h.2.2⟩
theorem AtSt.alloc {w W : World} {A : Nat} {ln col : Int} (h : AtSt w A ln col W) (o : Obj) : AtSt w A ln col (W.alloc o) := h.gr (Gr.alloc (Gr.refl _) o)
theorem AtSt.drew {w W : World} {A : Nat} {ln col : Int} (h : AtSt w A ln col W) : AtSt w A ln col W.drew := h.gr (Gr.drew (Gr.refl _))
theorem AtSt.drewN {w W : World} {A : Nat} {ln col : Int} (h : AtSt w A ln col W) (n : Nat) : AtSt w A ln col (W.drewN n) := h.gr (Gr.drewN (Gr.refl _) n)
theorem AtSt.app {w W w1 : World} {A : Nat} {ln col : Int} {e size n : Nat} {v : Value} {xs : List Value} (h : AtSt w A ln col W) (ho : W.ownsRow (w.heap.size + 1) e size v n xs) (hn : some A ≠ v.ownBlock) (hg : W.grownBy w1 v.ownBlock) : AtSt w A ln col w1 :=
  ⟨h.1.app ho hg, hg.cell h.2.1 hn, hg.cell h.2.2 hn⟩
set_option maxRecDepth 100000 in
set_option maxHeartbeats 4000000 in
theorem rtok_walk (R : Sum (List Value) (Int × Int)) (s : ByteArray) (w : World) (hs : s.size ≤ 262144) (hR : TkAt R s 1 1 [] 0) :
    Calls Tryd.prog 18 #[.string s] w (TkPost w R) := by
  have t0 : decide ((262144 : Int) < (s.size : Int)) = false := decide_eq_false (by omega)
  obtain ⟨i0, hi, hz0, hz1, hz2⟩ := info_parts Tryd.info45
  have HI := Lib.hid hi; have HZ0 := Lib.hid hz0; have HZ1 := Lib.hid hz1; have HZ2 := Lib.hid hz2
  clear hi hz0 hz1 hz2
  have hR0 : TkAt R (s.extract 0 s.size) 1 (((0 : Nat) : Int) - ((0 : Nat) : Int) + 1) [] 0 := by rw [ext_zero]; exact hR
  go_enter Tryd.func18, Tryd.ntmps18
  go_wp2_with fail
  go_loopw [5, 6, 7, 8] (fun s5 s6 s7 s8 wr => ∃ (i st : Nat) (ln : Int) (acc : List Value) (n : Nat), s6 = .int .i64 ln ∧ s7 = .int .i64 st ∧ s8 = .int .i64 i ∧ i ≤ s.size ∧ st ≤ i ∧ TkAt R (s.extract i s.size) ln ((i : Int) - (st : Int) + 1) acc n ∧ RkSt w wr ∧ wr.ownsRow (w.heap.size + 1) 45 4 s5 n acc) (fun _ _ _ s8 _ => s.size - (intOf s8).toNat)
  case atStart => exact ⟨0, 0, 1, [], 0, rfl, rfl, rfl, by omega, by omega, hR0, ⟨(by repeat' (first | (with_reducible exact Gr.refl _) | (with_reducible assumption) | (with_reducible refine Gr.alloc ?_ _) | (with_reducible refine Gr.drew ?_) | (with_reducible refine Gr.drewN ?_ _) | (with_reducible refine Gr.setCell ?_ ?_ _) | (with_reducible refine Gr.trans ?_ (by with_reducible assumption)) | go_size)), by simp, (by first | (simp [go_sem, *]; done) | ((try simp [go_sem, *]); refine World.cell?_setCell_same' _ _ _ ?_; simp [go_sem, *]; done)), (by first | (simp [go_sem, *]; done) | ((try simp [go_sem, *]); refine World.cell?_setCell_same' _ _ _ ?_; simp [go_sem, *]; done)), (by first | (simp [go_sem, *]; done) | ((try simp [go_sem, *]); refine World.cell?_setCell_same' _ _ _ ?_; simp [go_sem, *]; done)), (by first | (simp [go_sem, *]; done) | ((try simp [go_sem, *]); refine World.cell?_setCell_same' _ _ _ ?_; simp [go_sem, *]; done))⟩, ⟨rfl, Or.inl ⟨rfl, rfl⟩⟩⟩
  case round =>
    obtain ⟨i, st, ln, acc, n, rfl, rfl, rfl, hi, hst0, hat, hst, hown⟩ := hrel
    have HOWN := Lib.hid hown
    have HAT := Lib.hid hat
    have hn := hat.2.1
    have l0 := hat.2.2.1; have l1 := hat.2.2.2.1; have c0 := hat.2.2.2.2.1; have c1 := hat.2.2.2.2.2
    rw [size_cut s i hi] at hn l1 c1
    have hg : Gr w wr := hst.1
    clear hown hat hR hR0
    by_cases hlt : i < s.size
    · have HN := Lib.hid (fun W => rnext_any s i W hlt hs)
      have hsz : (s.extract i s.size).size = s.size - i := size_cut s i hi
      have hs3 := HAT.out.step (by rw [hsz]; omega)
      rw [data_cut] at hs3
      have hne : s.data.toList.drop i ≠ [] := by intro e; have := congrArg List.length e; simp at this; omega
      have hlen := Dc.nx_len hne
      have hpos := Dc.nx_pos hne
      have hfour := fun h => Dc.nx_four (l := s.data.toList.drop i) h
      have hll : (s.data.toList.drop i).length = s.size - i := by simp
      rw [hll] at hlen
      have etk : ∀ m, (⟨((s.data.toList.drop i).take m).toArray⟩ : ByteArray) = s.extract i (i + m) := fun m => by rw [ext_mid, data_cut]
      have ETK := Lib.hid etk
      have HS := Lib.hid hs3
      clear hs3 hne hll etk hsz
      generalize (Dc.nx (s.data.toList.drop i)).1 = k at *
      generalize (Dc.nx (s.data.toList.drop i)).2 = m at *
      go_wp2_with fail
      refine (HN.out _).mono ?_
      rintro e w1 ⟨rfl, hb1⟩
      obtain ⟨hc1, hf1⟩ := Gr.cells hb1
      have hst' := hst.gr hb1
      have HOWN := Lib.hid (ownsRow_gr HOWN.out hb1)
      clear hst hg
      have hst := hst'; clear hst'
      have hg : Gr w w1 := hst.1
      obtain ⟨-, hsz, a1, a2, a3, a4⟩ := id hst
      clear hc1 hf1
      have ne0 : w.heap.size ≠ w1.heap.size := by omega
      have ne1 : w1.heap.size ≠ w.heap.size := by omega
      have ne2 : w.heap.size < w1.heap.size := by omega
      by_cases k0 : k < 0
      · have t1 : decide (k < 0) = true := decide_eq_true k0
        have HR := Lib.hid (HS.out.1 k0)
        clear HS hlen hfour k0
        go_wp2_with fail
        go_region
        all_goals
          go_wp2_with fail
          have z0 : ∀ (u1 u2 : Value) (o : Obj), (((w1.setCell ⟨w.heap.size, 0, none⟩ u1).setCell ⟨w.heap.size, 1, none⟩ u2).alloc o).cell? ⟨w.heap.size, 0, none⟩ = some u1 := fun u1 u2 o => by simp [go_sem, *]
          have z1 : ∀ (u1 u2 : Value) (o : Obj), (((w1.setCell ⟨w.heap.size, 0, none⟩ u1).setCell ⟨w.heap.size, 1, none⟩ u2).alloc o).cell? ⟨w.heap.size, 1, none⟩ = some u2 := fun u1 u2 o => by simp [go_sem, *]
          refine bodyPost_ret (by simp [results, Tryd.results18, go_sem, z0, z1]; try rfl) rfl ?_
          rw [HR.out]
          exact ⟨by first | rfl | (simp; done), (by repeat' (first | (with_reducible exact Gr.refl _) | (with_reducible assumption) | (with_reducible refine Gr.alloc ?_ _) | (with_reducible refine Gr.drew ?_) | (with_reducible refine Gr.drewN ?_ _) | (with_reducible refine Gr.setCell ?_ ?_ _) | (with_reducible refine Gr.trans ?_ (by with_reducible assumption)) | go_size))⟩
      have t1 : decide (k < 0) = false := decide_eq_false k0
      have hlen := hlen (by omega)
      by_cases k4 : k = 4
      · have t2 : (k == 4) = true := by rw [beq_iff_eq]; exact k4
        have HX := Lib.hid (HS.out.2.1 k4)
        have hm1 := hfour k4
        subst k4
        subst hm1
        clear HS hfour k0
        go_wp2_with (at_builtin; refine wpList_append_own _ rfl _ _ 32 rfl (w.heap.size + 1) 45 i0 _ 4 40 Tryd.underlying32 HI.out HZ0.out HZ1.out HZ2.out rfl (by decide) _ n acc rfl (ownsRow_gr HOWN.out (by exact (by repeat' (first | (with_reducible exact Gr.refl _) | (with_reducible assumption) | (with_reducible refine Gr.alloc ?_ _) | (with_reducible refine Gr.drew ?_) | (with_reducible refine Gr.drewN ?_ _) | (with_reducible refine Gr.setCell ?_ ?_ _) | (with_reducible refine Gr.trans ?_ (by with_reducible assumption)) | go_size)))) ⟨w1.heap.size + 1, 0, none⟩ 1 1 [.int .i64 4, .string ⟨#[]⟩, .int .i64 (ln), .int .i64 ((i : Int) - (st : Int) + 1)] rfl rfl ?c1 ?c2 ?c3 ?c4 ?c5 ?_)
        case c1 =>
          intro j u hj
          match j, hj with
          | 0, hj => simp at hj; subst hj; first | (simp [Addr.add, go_sem]; done) | (simp only [Addr.add]; rw [World.cell?_alloc_at _ _ _ _ (by simp)]; rfl)
          | 1, hj => simp at hj; subst hj; first | (simp [Addr.add, go_sem]; done) | (simp only [Addr.add]; rw [World.cell?_alloc_at _ _ _ _ (by simp)]; rfl)
          | 2, hj => simp at hj; subst hj; first | (simp [Addr.add, go_sem]; done) | (simp only [Addr.add]; rw [World.cell?_alloc_at _ _ _ _ (by simp)]; rfl)
          | 3, hj => simp at hj; subst hj; first | (simp [Addr.add, go_sem]; done) | (simp only [Addr.add]; rw [World.cell?_alloc_at _ _ _ _ (by simp)]; rfl)
          | j + 4, hj => simp at hj
        case c2 => simp [Value.oneCell']
        case c3 => unfold maxLen; omega
        case c4 => omega
        case c5 => have := hst.2.1; simp; omega
        intro v' w2 hown' hgrow _
        have hst1 : RkSt w w2 := RkSt.app (hst.gr (by exact (by repeat' (first | (with_reducible exact Gr.refl _) | (with_reducible assumption) | (with_reducible refine Gr.alloc ?_ _) | (with_reducible refine Gr.drew ?_) | (with_reducible refine Gr.drewN ?_ _) | (with_reducible refine Gr.setCell ?_ ?_ _) | (with_reducible refine Gr.trans ?_ (by with_reducible assumption)) | go_size)))) (ownsRow_gr HOWN.out (by exact (by repeat' (first | (with_reducible exact Gr.refl _) | (with_reducible assumption) | (with_reducible refine Gr.alloc ?_ _) | (with_reducible refine Gr.drew ?_) | (with_reducible refine Gr.drewN ?_ _) | (with_reducible refine Gr.setCell ?_ ?_ _) | (with_reducible refine Gr.trans ?_ (by with_reducible assumption)) | go_size)))) hgrow
        have HO := Lib.hid hown'
        clear hown' hgrow
        go_wp2_with fail
        go_roundw
        case rel => exact ⟨i + 1, i + 1, ln + 1, _, n + 1, rfl, by go_num, by go_num, by omega, by omega, by have h := HX.out; rw [ext_ext] at h; rw [show (((i + 1 : Nat) : Int) - ((i + 1 : Nat) : Int) + 1) = 1 by omega]; exact h, hst1, HO.out⟩
        case measure => simp [intOf]; omega
      · have t2 : (k == 4) = false := by rw [beq_eq_false_iff_ne]; exact k4
        clear hfour
        by_cases kz : k = 0
        · have HX := Lib.hid (HS.out.2.2.1 (by omega) k4 kz)
          have t3 : decide (0 < k) = false := decide_eq_false (by omega)
          clear HS k0 k4 kz
          go_wp2_with fail
          go_roundw
          case rel => exact ⟨i + m, st, ln, acc, n, rfl, rfl, by go_num, by omega, by omega, by have h := HX.out; rw [ext_ext] at h; rw [show (((i + m : Nat) : Int) - (st : Int) + 1) = (i : Int) - (st : Int) + 1 + (m : Int) by omega]; exact h, hst.gr (by repeat' (first | (with_reducible exact Gr.refl _) | (with_reducible assumption) | (with_reducible refine Gr.alloc ?_ _) | (with_reducible refine Gr.drew ?_) | (with_reducible refine Gr.drewN ?_ _) | (with_reducible refine Gr.setCell ?_ ?_ _) | (with_reducible refine Gr.trans ?_ (by with_reducible assumption)) | go_size)), ownsRow_gr HOWN.out (by repeat' (first | (with_reducible exact Gr.refl _) | (with_reducible assumption) | (with_reducible refine Gr.alloc ?_ _) | (with_reducible refine Gr.drew ?_) | (with_reducible refine Gr.drewN ?_ _) | (with_reducible refine Gr.setCell ?_ ?_ _) | (with_reducible refine Gr.trans ?_ (by with_reducible assumption)) | go_size))⟩
          case measure => simp [intOf]; omega
        · have HX := Lib.hid (HS.out.2.2.2 (by omega) k4 kz)
          have t3 : decide (0 < k) = true := decide_eq_true (by omega)
          have neA : some w1.heap.size ≠ u5.ownBlock := fun e => by have := (HOWN.out.lt _ e.symm).2; omega
          have h1k : (1 : Nat) ≤ m := hpos
          have bi0 : (0 : Int) ≤ (i : Int) + (m : Int) := by omega
          have bi1 : (i : Int) + (m : Int) ≤ (s.size : Int) := by omega
          have bi2 : (i : Int) ≤ (i : Int) + (m : Int) := by omega
          have bi3 : ((i : Int) + (m : Int)).toNat = i + m := by omega
          clear HS k0 k4 kz
          go_wp2_with fail
          refine name_world ?_
          intro W0 hW0
          have hA0 : AtSt w w1.heap.size ln ((i : Int) - (st : Int) + 1) W0 := by rw [hW0]; exact ⟨hst.gr (by repeat' (first | (with_reducible exact Gr.refl _) | (with_reducible assumption) | (with_reducible refine Gr.alloc ?_ _) | (with_reducible refine Gr.drew ?_) | (with_reducible refine Gr.drewN ?_ _) | (with_reducible refine Gr.setCell ?_ ?_ _) | (with_reducible refine Gr.trans ?_ (by with_reducible assumption)) | go_size)), (by first | (simp [go_sem, *]; done) | ((try simp [go_sem, *]); refine World.cell?_setCell_same' _ _ _ ?_; simp [go_sem, *]; done)), (by first | (simp [go_sem, *]; done) | ((try simp [go_sem, *]); refine World.cell?_setCell_same' _ _ _ ?_; simp [go_sem, *]; done))⟩
          have gW : Gr w1 W0 := by rw [hW0]; exact (by repeat' (first | (with_reducible exact Gr.refl _) | (with_reducible assumption) | (with_reducible refine Gr.alloc ?_ _) | (with_reducible refine Gr.drew ?_) | (with_reducible refine Gr.drewN ?_ _) | (with_reducible refine Gr.setCell ?_ ?_ _) | (with_reducible refine Gr.trans ?_ (by with_reducible assumption)) | go_size))
          have HOWN0 := Lib.hid (ownsRow_gr HOWN.out gW)
          have gz := Gr.size gW
          clear hW0
          have r0 : ∀ w', AtSt w w1.heap.size ln ((i : Int) - (st : Int) + 1) w' → w'.cell? ⟨w1.heap.size, 0, none⟩ = some (.int .i64 ln) := fun w' h => h.2.1
          have r1 : ∀ w', AtSt w w1.heap.size ln ((i : Int) - (st : Int) + 1) w' → w'.cell? ⟨w1.heap.size, 1, none⟩ = some (.int .i64 ((i : Int) - (st : Int) + 1)) := fun w' h => h.2.2
          go_region_held3 (fun w' => AtSt w w1.heap.size ln ((i : Int) - (st : Int) + 1) w') (repeat' (first | (with_reducible assumption) | (with_reducible refine AtSt.drew ?_) | (with_reducible refine AtSt.drewN ?_ _) | (with_reducible refine AtSt.alloc ?_ _))) ((refine step_append_lies _ (by rfl) _ _ _ (by rfl) (w.heap.size + 1) 45 i0 _ 4 40 Tryd.underlying32 HI.out HZ0.out HZ1.out HZ2.out rfl (by decide) u5 n acc (by rfl) (ownsRow_gr HOWN0.out (by exact (by repeat' (first | (with_reducible exact Gr.refl _) | (with_reducible assumption) | (with_reducible refine Gr.alloc ?_ _) | (with_reducible refine Gr.drew ?_) | (with_reducible refine Gr.drewN ?_ _) | (with_reducible refine Gr.setCell ?_ ?_ _) | (with_reducible refine Gr.trans ?_ (by with_reducible assumption)) | go_size)))) ⟨W0.heap.size, 0, none⟩ 1 1 [.int .i64 k, .string (s.extract i (i + m)), .int .i64 ln, .int .i64 ((i : Int) - (st : Int) + 1)] (by rfl) (by rfl) (World.news_of_block (cs := #[.int .i64 k, .string (s.extract i (i + m)), .int .i64 ln, .int .i64 ((i : Int) - (st : Int) + 1)]) (heap_alloc_new W0 _)) (by simp [Value.oneCell']) (by omega) (by unfold maxLen; omega) (by omega) (by simp; omega) (W0.heap.size + 1) (by simp) ?_; intro g cap w2 hown1 hgrow hat1 hlt1; have hst3 : AtSt w w1.heap.size ln ((i : Int) - (st : Int) + 1) w2 := AtSt.app (by repeat' (first | (with_reducible assumption) | (with_reducible refine AtSt.drew ?_) | (with_reducible refine AtSt.drewN ?_ _) | (with_reducible refine AtSt.alloc ?_ _))) (ownsRow_gr HOWN0.out (by exact (by repeat' (first | (with_reducible exact Gr.refl _) | (with_reducible assumption) | (with_reducible refine Gr.alloc ?_ _) | (with_reducible refine Gr.drew ?_) | (with_reducible refine Gr.drewN ?_ _) | (with_reducible refine Gr.setCell ?_ ?_ _) | (with_reducible refine Gr.trans ?_ (by with_reducible assumption)) | go_size)))) neA hgrow))
          all_goals
            have HO := Lib.hid hown1
            clear hown1 hgrow hat1 r0 r1
            rw [← ETK.out] at HO
            go_wp2_with fail
            go_roundw
            case rel => exact ⟨i + m, st, ln, _, n + 1, rfl, rfl, by go_num, by omega, by omega, by have h := HX.out; rw [ext_ext] at h; rw [show (((i + m : Nat) : Int) - (st : Int) + 1) = (i : Int) - (st : Int) + 1 + (m : Int) by omega]; exact h, hst3.1.gr (by repeat' (first | (with_reducible exact Gr.refl _) | (with_reducible assumption) | (with_reducible refine Gr.alloc ?_ _) | (with_reducible refine Gr.drew ?_) | (with_reducible refine Gr.drewN ?_ _) | (with_reducible refine Gr.setCell ?_ ?_ _) | (with_reducible refine Gr.trans ?_ (by with_reducible assumption)) | go_size)), ownsRow_gr HO.out (by repeat' (first | (with_reducible exact Gr.refl _) | (with_reducible assumption) | (with_reducible refine Gr.alloc ?_ _) | (with_reducible refine Gr.drew ?_) | (with_reducible refine Gr.drewN ?_ _) | (with_reducible refine Gr.setCell ?_ ?_ _) | (with_reducible refine Gr.trans ?_ (by with_reducible assumption)) | go_size))⟩
            case measure => simp [intOf]; omega
    · obtain rfl : i = s.size := by omega
      have hF := HAT.out.nil (by simp)
      obtain ⟨-, hsz, a1, a2, a3, a4⟩ := id hst
      go_wp2_with (at_builtin; refine wpList_append_own _ rfl _ _ 32 rfl (w.heap.size + 1) 45 i0 _ 4 40 Tryd.underlying32 HI.out HZ0.out HZ1.out HZ2.out rfl (by decide) _ n acc rfl (ownsRow_gr HOWN.out (by exact (by repeat' (first | (with_reducible exact Gr.refl _) | (with_reducible assumption) | (with_reducible refine Gr.alloc ?_ _) | (with_reducible refine Gr.drew ?_) | (with_reducible refine Gr.drewN ?_ _) | (with_reducible refine Gr.setCell ?_ ?_ _) | (with_reducible refine Gr.trans ?_ (by with_reducible assumption)) | go_size)))) ⟨wr.heap.size, 0, none⟩ 1 1 [.int .i64 5, .string ⟨#[]⟩, .int .i64 (ln), .int .i64 ((s.size : Int) - (st : Int) + 1)] rfl rfl ?c1 ?c2 ?c3 ?c4 ?c5 ?_)
      case c1 =>
        intro j u hj
        match j, hj with
        | 0, hj => simp at hj; subst hj; first | (simp [Addr.add, go_sem]; done) | (simp only [Addr.add]; rw [World.cell?_alloc_at _ _ _ _ (by simp)]; rfl)
        | 1, hj => simp at hj; subst hj; first | (simp [Addr.add, go_sem]; done) | (simp only [Addr.add]; rw [World.cell?_alloc_at _ _ _ _ (by simp)]; rfl)
        | 2, hj => simp at hj; subst hj; first | (simp [Addr.add, go_sem]; done) | (simp only [Addr.add]; rw [World.cell?_alloc_at _ _ _ _ (by simp)]; rfl)
        | 3, hj => simp at hj; subst hj; first | (simp [Addr.add, go_sem]; done) | (simp only [Addr.add]; rw [World.cell?_alloc_at _ _ _ _ (by simp)]; rfl)
        | j + 4, hj => simp at hj
      case c2 => simp [Value.oneCell']
      case c3 => unfold maxLen; omega
      case c4 => omega
      case c5 => have := hst.2.1; simp; omega
      intro v' w2 hown' hgrow _
      have hst1 : RkSt w w2 := RkSt.app (hst.gr (by exact (by repeat' (first | (with_reducible exact Gr.refl _) | (with_reducible assumption) | (with_reducible refine Gr.alloc ?_ _) | (with_reducible refine Gr.drew ?_) | (with_reducible refine Gr.drewN ?_ _) | (with_reducible refine Gr.setCell ?_ ?_ _) | (with_reducible refine Gr.trans ?_ (by with_reducible assumption)) | go_size)))) (ownsRow_gr HOWN.out (by exact (by repeat' (first | (with_reducible exact Gr.refl _) | (with_reducible assumption) | (with_reducible refine Gr.alloc ?_ _) | (with_reducible refine Gr.drew ?_) | (with_reducible refine Gr.drewN ?_ _) | (with_reducible refine Gr.setCell ?_ ?_ _) | (with_reducible refine Gr.trans ?_ (by with_reducible assumption)) | go_size)))) hgrow
      have HO := Lib.hid hown'
      clear hown' hgrow
      obtain ⟨hg1, hsz1, d1, d2, d3, d4⟩ := id hst1
      clear a1 a2 a3 a4 hst hg
      go_wp2_with fail
      refine bodyPost_ret (by simp [results, Tryd.results18, go_sem, d1, d2]; try rfl) rfl ?_
      rw [hF]
      exact ⟨_, n + 1, by first | rfl | (simp; done), ownsRow_base (base := w.heap.size + 1) (by repeat' (first | exact HO.out | refine ownsRow_drew ?_ | refine ownsRow_set ?_ (by simp) _)) (by omega), by omega, (by repeat' (first | (with_reducible exact Gr.refl _) | (with_reducible assumption) | (with_reducible refine Gr.alloc ?_ _) | (with_reducible refine Gr.drew ?_) | (with_reducible refine Gr.drewN ?_ _) | (with_reducible refine Gr.setCell ?_ ?_ _) | (with_reducible refine Gr.trans ?_ (by with_reducible assumption)) | go_size))⟩
end Go.Proofs.YtagfgnpjljaefaaDoor
