/-
  Alarms: slices.DeleteFunc at a row of alarms that a call has made. Typed.
-/
import Derived.Test.YtllkiadedaghoaaGreatAnA
set_option linter.unusedVariables false
set_option linter.unusedSimpArgs false
namespace Go.Proofs.YtllkiadedaghoaaGreat
open Go.RowKit Go.Shelf Go.Sort
attribute [local go_sem ↓] Go.wp_at_zero Go.wp_at_succ
theorem GrX.trans {R : Nat} {a b c : World} (h : GrX R a b) (k : GrX R b c) : GrX R a c :=
  ⟨k.os.trans h.os, k.tape.trans h.tape, k.output.trans h.output, Nat.le_trans h.size k.size, fun i hi hR => (k.block i (Nat.lt_of_lt_of_le hi h.size) hR).trans (h.block i hi hR), fun o ho => k.row o (h.row o ho), fun o ho => (k.free o (h.row o ho)).trans (h.free o ho)⟩
namespace Al
/-- An alarm in a block of alarms; its cells may be written. -/
def R4 (w : World) (b i : Nat) (a : A) : Prop := Go.Proofs.YtllkiadedaghoaaGreat.Own w b (i * 4) (.int .i64 a.kd) ∧ Go.Proofs.YtllkiadedaghoaaGreat.Own w b (i * 4 + 1) (.string a.nd) ∧ Go.Proofs.YtllkiadedaghoaaGreat.Own w b (i * 4 + 2) (.int .i64 a.tm) ∧ Go.Proofs.YtllkiadedaghoaaGreat.Own w b (i * 4 + 3) (.slice a.p a.n a.c)
theorem R4.gr {w w' : World} {b i : Nat} {a : A} (h : R4 w b i a) (g : Gr w w') : R4 w' b i a := ⟨h.1.gr g, h.2.1.gr g, h.2.2.1.gr g, h.2.2.2.gr g⟩
/-- A row of n alarms. -/
def Rw (w : World) (b n : Nat) (F : Nat → A) : Prop := ∀ t, t < n → R4 w b t (F t)
theorem Rw.gr {w w' : World} {b n : Nat} {F : Nat → A} (h : Rw w b n F) (g : Gr w w') : Rw w' b n F := fun t ht => (h t ht).gr g
theorem rw_of {w : World} {g : Nat} {d : List A} (h : RowE A.enc 4 w g d) : Rw w g d.length (fun i => d[i]!) := fun t ht => ⟨by have := h t ht 0 (by omega); exact this, h t ht 1 (by omega), h t ht 2 (by omega), h t ht 3 (by omega)⟩
/-- One alarm is written. -/
def st4 (w : World) (b i : Nat) (a : A) : World := (((w.setCell ⟨b, i * 4, none⟩ (.int .i64 a.kd)).setCell ⟨b, i * 4 + 1, none⟩ (.string a.nd)).setCell ⟨b, i * 4 + 2, none⟩ (.int .i64 a.tm)).setCell ⟨b, i * 4 + 3, none⟩ (.slice a.p a.n a.c)
theorem st4_grx (w : World) (b i : Nat) (a : A) : GrX b w (st4 w b i a) :=
  GrX.setCell (p := ⟨b, i * 4 + 3, none⟩) (GrX.setCell (p := ⟨b, i * 4 + 2, none⟩) (GrX.setCell (p := ⟨b, i * 4 + 1, none⟩) (GrX.setCell (p := ⟨b, i * 4, none⟩) (GrX.refl b w) rfl _) rfl _) rfl _) rfl _
theorem st4_other {w : World} {b i o : Nat} {a : A} {u : Value} (h : Go.Proofs.YtllkiadedaghoaaGreat.Own w b o u) (h0 : o ≠ i * 4) (h1 : o ≠ i * 4 + 1) (h2 : o ≠ i * 4 + 2) (h3 : o ≠ i * 4 + 3) : Go.Proofs.YtllkiadedaghoaaGreat.Own (st4 w b i a) b o u :=
  Own.other (Own.other (Own.other (Own.other h (Or.inr h0)) (Or.inr h1)) (Or.inr h2)) (Or.inr h3)
theorem Rw.put {w : World} {b n i : Nat} {F : Nat → A} {a : A} (h : Rw w b n F) (hi : i < n) : Rw (st4 w b i a) b n (fun t => if t = i then a else F t) := by
  intro t ht
  by_cases q : t = i
  · subst q
    simp only [if_pos]
    obtain ⟨h0, h1, h2, h3⟩ := h t ht
    exact ⟨Own.other (Own.other (Own.other (Own.set h0) (Or.inr (by omega))) (Or.inr (by omega))) (Or.inr (by omega)), Own.other (Own.other (Own.set (Own.other h1 (Or.inr (by omega)))) (Or.inr (by omega))) (Or.inr (by omega)), Own.other (Own.set (Own.other (Own.other h2 (Or.inr (by omega))) (Or.inr (by omega)))) (Or.inr (by omega)), Own.set (Own.other (Own.other (Own.other h3 (Or.inr (by omega))) (Or.inr (by omega))) (Or.inr (by omega)))⟩
  · simp only [if_neg q]
    obtain ⟨h0, h1, h2, h3⟩ := h t ht
    exact ⟨st4_other h0 (by omega) (by omega) (by omega) (by omega), st4_other h1 (by omega) (by omega) (by omega) (by omega), st4_other h2 (by omega) (by omega) (by omega) (by omega), st4_other h3 (by omega) (by omega) (by omega) (by omega)⟩
/-- Cells of one block are written from an offset on. -/
theorem grx_setCells (b : Nat) : ∀ (vs : List Value) (o : Nat) (w : World), GrX b w (w.setCells b o vs)
  | [], _, w => GrX.refl b w
  | v :: r, o, w => (GrX.setCell (p := ⟨b, o, none⟩) (GrX.refl b w) rfl v).trans (grx_setCells b r (o + 1) _)
theorem own_setCells {b k : Nat} {u : Value} : ∀ (vs : List Value) (o : Nat) (w : World), k < o → Go.Proofs.YtllkiadedaghoaaGreat.Own w b k u → Go.Proofs.YtllkiadedaghoaaGreat.Own (w.setCells b o vs) b k u
  | [], _, _, _, h => h
  | v :: r, o, w, hk, h => own_setCells r (o + 1) _ (by omega) (Own.other h (Or.inr (by omega)))
theorem rw_setCells {w : World} {b m : Nat} {F : Nat → A} (vs : List Value) (o : Nat) (h : Rw w b m F) (ho : m * 4 ≤ o) : Rw (w.setCells b o vs) b m F := fun t ht => by
  obtain ⟨h0, h1, h2, h3⟩ := h t ht
  exact ⟨own_setCells vs o w (by omega) h0, own_setCells vs o w (by omega) h1, own_setCells vs o w (by omega) h2, own_setCells vs o w (by omega) h3⟩
/-- The loop of DeleteFunc: of the first j alarms those that stay stand first. -/
structure DfS (p : A → Bool) (D : Nat → A) (n i j : Nat) (F : Nat → A) : Prop where
  lt : i < j
  le : j ≤ n
  fl : (List.range i).map F = ((List.range j).map D).filter fun a => !p a
  rest : ∀ t, j ≤ t → t < n → F t = D t
  from' : ∀ t, t < n → ∃ s, s < n ∧ F t = D s
theorem DfS.start {p : A → Bool} {D : Nat → A} {n i : Nat} (hi : i < n) (h : p (D i) = true) (hno : ∀ t, t < i → p (D t) = false) : DfS p D n i (i + 1) D :=
  ⟨by omega, by omega, by
    rw [List.range_succ, List.map_append, List.filter_append, List.filter_eq_self.2 fun a ha => by
      obtain ⟨t, ht, rfl⟩ := List.mem_map.1 ha
      rw [hno t (List.mem_range.1 ht)]; rfl]
    simp [h], fun _ _ _ => rfl, fun t ht => ⟨t, ht, rfl⟩⟩
theorem DfS.skip {p : A → Bool} {D : Nat → A} {n i j : Nat} {F : Nat → A} (h : DfS p D n i j F) (hj : j < n) (hp : p (D j) = true) : DfS p D n i (j + 1) F :=
  ⟨by have := h.lt; omega, by omega, by rw [h.fl, List.range_succ, List.map_append, List.filter_append]; simp [hp], fun t h1 h2 => h.rest t (by omega) h2, h.from'⟩
theorem DfS.put {p : A → Bool} {D : Nat → A} {n i j : Nat} {F : Nat → A} (h : DfS p D n i j F) (hj : j < n) (hp : p (D j) = false) : DfS p D n (i + 1) (j + 1) (fun t => if t = i then D j else F t) := by
  have hlt := h.lt
  refine ⟨by omega, by omega, ?_, fun t h1 h2 => by rw [if_neg (by omega)]; exact h.rest t (by omega) h2, fun t ht => ?_⟩
  · rw [List.range_succ, List.map_append, List.range_succ, List.map_append, List.filter_append, ← h.fl]
    congr 1
    · refine List.map_congr_left fun t ht => ?_
      rw [if_neg (by have := List.mem_range.1 ht; omega)]
    · simp [hp]
  · by_cases q : t = i
    · rw [if_pos q]; exact ⟨j, hj, rfl⟩
    · rw [if_neg q]; exact h.from' t ht
end Al
theorem Al.OwnA.len {w : World} {b : Nat} {v : Value} {l : List Al.A} (h : Al.OwnA w b v l) : ∃ A c, v = .slice A l.length c := by
  rcases h.open with ⟨rfl, rfl⟩ | ⟨g, c, cur, rfl, -⟩
  · exact ⟨none, 0, rfl⟩
  · exact ⟨_, c, rfl⟩
/-- Indices that a call has gathered, as a slice. -/
theorem ownI_sl {w : World} {base : Nat} {v : Value} {l : List Nat} (h : w.ownsRow base 3 1 v l.length (l.map fun (q : Nat) => Value.int .i64 (q : Int))) (hm : ∀ q ∈ l, q ≤ 100000) : ∃ d : Ba.SlI, v = .slice d.A d.n d.c ∧ d.At w ∧ d.n = l.length ∧ ∀ j (hj : j < l.length), d.X j = (l[j] : Int) := by
  obtain ⟨A, c, b, rfl, hA, hn, hc, hx⟩ := ownsRow_at h
  refine ⟨⟨A, l.length, c, b, 0, fun j => ((l.getD j 0 : Nat) : Int)⟩, rfl, ⟨hA, hn, hc, fun i hi => ?_⟩, rfl, fun j hj => ?_⟩
  · have hi' : i < l.length := hi
    simp only [Nat.zero_add]
    refine ⟨?_, ?_⟩
    · rw [hx i hi', List.getElem?_map, List.getElem?_eq_getElem hi', List.getD_eq_getElem?_getD, List.getElem?_eq_getElem hi']; rfl
    · have : l.getD i 0 ≤ 100000 := by
        rw [List.getD_eq_getElem?_getD, List.getElem?_eq_getElem hi']
        exact hm _ (List.getElem_mem hi')
      unfold Ba.i64; omega
  · simp only [List.getD_eq_getElem?_getD, List.getElem?_eq_getElem hj]; rfl
set_option maxRecDepth 100000 in
set_option maxHeartbeats 8000000 in
theorem df_alm (f : FuncId) (cap : Array Value) (p : Al.A → Bool) (v : Value) (d : List Al.A) (base : Nat) (w0 w : World) (g0 : Gr w0 w) (hb : w0.heap.size ≤ base) (h : Al.OwnA w base v d) (hn : d.length ≤ 100000) (hen : ∀ args w, (callFunc f args).run Tryz.prog w = .ok (.enter f args) w)
    (hp : ∀ g, base ≤ g → ∀ a ∈ d, ∀ W, GrX g w W → Calls Tryz.prog f (#[a.val] ++ cap) W fun e w' => e = .returned (.bool (p a)) ∧ Gr W w') :
    Calls Tryz.prog 31 #[v, .func (.func f) #[] cap] w fun e w' => ∃ s : Al.SlA, e = .returned s.val ∧ s.At w' ∧ s.con = (d.filter fun a => !p a).map Al.A.con ∧ Gr w0 w' := by
  have hop := h.open
  have hown := h.own
  rcases hop with ⟨rfl, rfl⟩ | ⟨g, cp, cur, rfl, hbg, hblk, hnc, hcm, hr⟩
  · have HI := Lib.hid (idx_alm f cap Al.SlA.nil (fun _ => false) w (Al.SlA.nil_at w) hen (fun i hi => absurd hi (Nat.not_lt_zero _)))
    have HN := Lib.hid (show Ba.fstI (fun _ => false) Al.SlA.nil.n = -1 from Ba.fstI_none rfl)
    rw [HN.out] at HI
    clear hp h hown HN
    unfold Al.SlA.nil at HI
    go_enter Tryz.func31, Tryz.ntmps31
    go_wp2_with fail
    refine HI.out.mono ?_
    rintro e w1 ⟨rfl, hb1⟩
    clear HI
    go_wp2_with fail
    go_ret
    exact ⟨Al.SlA.nil, rfl, Al.SlA.nil_at _, by simp [Al.SlA.con, Al.SlA.nil], g0.trans hb1⟩
  · have hne : ∀ a ∈ d, a.b ≠ g := fun a ha => (hown a ha).ne hblk
    have hat := Al.SlA.row_at hr hown hnc hcm
    have hlt : ∀ a ∈ d, a.b < w.heap.size := fun a ha => (hown a ha).ib.lt
    have HI := Lib.hid (idx_alm f cap (Al.SlA.row g cp d) (fun i => p d[i]!) w hat hen (fun i hi W hW => by
      have hi' : i < d.length := hi
      have := hp g hbg d[i]! (by rw [getElem!_pos d i hi']; exact List.getElem_mem _) W ((GrX.refl g w).grown hW)
      exact this))
    have hcc := hat.hb
    have HD := Lib.hid (fun i (hi : i < d.length) => show d[i]! ∈ d from by rw [getElem!_pos d i hi]; exact List.getElem_mem _)
    have HP := Lib.hid (fun (i : Nat) (hi : i < d.length) W (hW : GrX g w W) => hp g hbg d[i]! (HD.out i hi) W hW)
    have HR := Lib.hid (Al.rw_of hr)
    have HOwn := Lib.hid (fun (a : Al.A) (ha : a ∈ d) W (hW : GrX g w W) => show a.Own W from (hown a ha).keep (hW.block a.b (hlt a ha) (hne a ha)))
    have hml : (List.range d.length).map (fun i => d[i]!) = d := by
      apply List.ext_getElem
      · simp
      · intro i h1 h2; simp at h1; simp [h1]
    have HM := Lib.hid hml
    have hcp : cp ≤ 9223372036854775807 := hcc
    clear h hp hown hne hlt hml hat hcc hblk
    have e1 : (Al.SlA.row g cp d).A = some ⟨g, 0, none⟩ := rfl
    have e2 : (Al.SlA.row g cp d).n = d.length := rfl
    have e3 : (Al.SlA.row g cp d).c = cp := rfl
    rw [e1, e2, e3] at HI
    clear e1 e2 e3
    cases hf : Ba.fst (fun i => p d[i]!) d.length with
    | none =>
      have hno := Ba.fst_some.fst_no hf
      rw [show Ba.fstI (fun i => p d[i]!) d.length = -1 from Ba.fstI_none hf] at HI
      have HF := Lib.hid (show (d.filter fun a => !p a) = d from List.filter_eq_self.2 fun a ha => by
        obtain ⟨i, hi, rfl⟩ := List.getElem_of_mem ha
        have := hno i hi
        rw [getElem!_pos d i hi] at this
        rw [this]; rfl)
      have HA := Lib.hid (fun W (hW : Gr w W) => show (Al.SlA.row g cp d).At W from Al.SlA.row_at (fun i hi c hc => (hr i hi c hc).gr hW) (fun a ha => HOwn.out a ha W ((GrX.refl g w).grown hW)) hnc hcm)
      have HV := Lib.hid (show (.slice (some ⟨g, 0, none⟩) d.length cp : Value) = (Al.SlA.row g cp d).val from rfl)
      clear hno hf HP HR HOwn HD HM hr
      obtain ⟨n, hnn⟩ : ∃ n, d.length = n := ⟨_, rfl⟩
      rw [hnn] at HI hnc HV
      rw [hnn]
      clear hn
      go_enter Tryz.func31, Tryz.ntmps31
      go_wp2_with fail
      refine HI.out.mono ?_
      rintro e w1 ⟨rfl, hb1⟩
      clear HI
      go_wp2_with fail
      go_ret
      exact ⟨Al.SlA.row g cp d, by rw [← HV.out]; rfl, HA.out _ hb1, by rw [HF.out, Al.SlA.row_con], g0.trans hb1⟩
    | some i0 =>
      obtain ⟨hi0, hpi, hno⟩ := Ba.fst_some hf
      rw [show Ba.fstI (fun i => p d[i]!) d.length = (i0 : Int) from by unfold Ba.fstI; rw [hf]] at HI
      have HS0 := Lib.hid (Al.DfS.start (p := p) (D := fun i => d[i]!) hi0 hpi hno)
      clear hf hpi hno hr HD
      have HFin := Lib.hid (fun (m : Nat) (F : Nat → Al.A) W (hX : GrX g w W) (hW : Al.Rw W g m F) (hs : Al.DfS p (fun i => d[i]!) d.length m d.length F) (hmc : m ≤ cp) => show ∃ s : Al.SlA, (.slice (some ⟨g, 0, none⟩) m cp : Value) = s.val ∧ s.At W ∧ s.con = (d.filter fun a => !p a).map Al.A.con from by
        refine ⟨⟨some ⟨g, 0, none⟩, m, cp, g, 0, F⟩, rfl, ⟨fun _ => rfl, fun h => (by cases h), hmc, hcp, fun i hi => ⟨?_, ?_⟩⟩, ?_⟩
        · obtain ⟨h0, h1, h2, h3⟩ := hW i hi
          exact ⟨by rw [Nat.zero_add]; exact h0.1, by rw [Nat.zero_add]; exact h1.1, by rw [Nat.zero_add]; exact h2.1, by rw [Nat.zero_add]; exact h3.1⟩
        · have hi' : i < m := hi
          obtain ⟨s, hs1, hs2⟩ := hs.from' i (by have := hs.lt; omega)
          show (F i).Own W
          rw [hs2]
          exact HOwn.out _ (by show d[s]! ∈ d; rw [getElem!_pos d s hs1]; exact List.getElem_mem _) W hX
        · have := hs.fl
          rw [HM.out] at this
          rw [← this, List.map_map]; rfl)
      clear HM HOwn
      obtain ⟨n, hnn⟩ : ∃ n, d.length = n := ⟨_, rfl⟩
      simp only [hnn] at HI hnc hi0 HP HR HS0 HFin
      rw [hnn] at hn
      rw [hnn]
      obtain ⟨D, hD⟩ : ∃ D : Nat → Al.A, (fun i => d[i]!) = D := ⟨_, rfl⟩
      have HP' := Lib.hid (show ∀ (i : Nat) (hi : i < n) W (hW : GrX g w W), Calls Tryz.prog f (#[(D i).val] ++ cap) W fun e w' => e = .returned (.bool (p (D i))) ∧ Gr W w' from hD ▸ HP.out)
      rw [hD] at HS0 HR HFin
      obtain ⟨FL, hFL⟩ : ∃ FL, (d.filter fun a => !p a).map Al.A.con = FL := ⟨_, rfl⟩
      rw [hFL] at HFin ⊢
      clear hFL hD hnn HP
      clear d
      go_enter Tryz.func31, Tryz.ntmps31
      go_wp2_with fail
      -- @a
      refine HI.out.mono ?_
      rintro e w1 ⟨rfl, hb1⟩
      clear HI
      have g1 := g0.trans hb1
      have x1 := (GrX.refl g w).grown hb1
      have HR1 := Lib.hid (HR.out.gr hb1)
      have i00 : (0 : Int) ≤ (i0 : Int) := by omega
      have i01 : ¬ (i0 : Int) = -1 := by omega
      have i02 : ((i0 : Int) == -1) = false := beq_eq_false_iff_ne.2 i01
      clear HR hb1
      go_wp2_with fail
      -- @b
      go_loopw [5, 6] (fun x y wr => ∃ (i j : Nat) (F : Nat → Al.A), x = .int .i64 (i : Int) ∧ y = .int .i64 (j : Int) ∧ Hid (Al.DfS p D n i j F) ∧ Hid (Al.Rw wr g n F) ∧ GrX g w1 wr) (fun _ y _ => n - (intOf y).toNat)
      case atStart => exact ⟨i0, i0 + 1, D, rfl, by go_num, HS0, HR1, GrX.refl _ _⟩
      case round =>
        clear HR1 HS0 i00 i01 i02 hi0
        obtain ⟨i, j, F, rfl, rfl, HS, HR, hg⟩ := hrel
        rename World => W2
        have hij := HS.out.lt; have hj := HS.out.le
        have ib0 : (0 : Int) ≤ (i : Int) := by omega
        have ib1 : (i : Int) < (n : Int) := by omega
        by_cases hlt : j < n
        · have jb0 : (0 : Int) ≤ (j : Int) := by omega
          have jb1 : (j : Int) < (n : Int) := by omega
          obtain ⟨⟨a0, -⟩, ⟨a1, -⟩, ⟨a2, -⟩, ⟨a3, -⟩⟩ := HR.out j hlt
          rw [HS.out.rest j (Nat.le_refl _) hlt] at a0 a1 a2 a3
          have bl := World.block_lt_of_cell? _ _ a0
          simp only at bl
          have HPj := Lib.hid (HP'.out j hlt)
          have HY := Lib.hid (fun h => HS.out.skip hlt h); have HN := Lib.hid (fun h => HS.out.put hlt h)
          have hin : i < n := by omega
          have HRi := Lib.hid (HR.out i hin)
          clear HP' HS
          obtain ⟨q, hq⟩ : ∃ q, D j = q := ⟨_, rfl⟩
          rw [hq] at HPj HY HN a0 a1 a2 a3
          clear hq
          unfold Al.A.val at HPj
          -- @c
          go_upto_region 8 with fail
          -- @d
          obtain ⟨W3, hW3⟩ : ∃ W, W2.alloc (Obj.cells #[.int .i64 q.kd, .string q.nd, .int .i64 q.tm, .slice q.p q.n q.c] 35) = W := ⟨_, rfl⟩
          have g3 : Gr W2 W3 := hW3 ▸ Gr.alloc (Gr.refl W2) _
          have v0 : W3.cell? ⟨W2.heap.size, 0, none⟩ = some (.int .i64 q.kd) := by rw [← hW3]; simp [go_sem]
          have v1 : W3.cell? ⟨W2.heap.size, 1, none⟩ = some (.string q.nd) := by rw [← hW3]; simp [go_sem]
          have v2 : W3.cell? ⟨W2.heap.size, 2, none⟩ = some (.int .i64 q.tm) := by rw [← hW3]; simp [go_sem]
          have v3 : W3.cell? ⟨W2.heap.size, 3, none⟩ = some (.slice q.p q.n q.c) := by rw [← hW3]; simp [go_sem]
          obtain ⟨VB, hVB⟩ : ∃ B, W2.heap.size = B := ⟨_, rfl⟩
          try rw [hW3]
          rw [hVB] at v0 v1 v2 v3 bl ⊢
          have x3 := x1.trans (hg.grown g3)
          clear hW3 hVB a0 a1 a2 a3
          -- @e
          go_wp2_with fail
          -- @f
          refine (HPj.out W3 x3).mono ?_
          rintro e w4 ⟨rfl, hb4⟩
          have g4 := g3.trans hb4
          have hg4 := hg.grown g4
          have HR4 := Lib.hid (HR.out.gr g4)
          obtain ⟨⟨q0, p0⟩, ⟨q1, p1⟩, ⟨q2, p2⟩, ⟨q3, p3⟩⟩ := HRi.out.gr g4
          replace v0 := Gr.at hb4 v0; replace v1 := Gr.at hb4 v1; replace v2 := Gr.at hb4 v2; replace v3 := Gr.at hb4 v3
          clear HPj g3 g4 hb4 HR hg x3 HRi
          cases e : p q
          · have HQ := Lib.hid (HN.out e)
            clear HY HN e
            obtain ⟨W5, hW5⟩ : ∃ W, (((w4.setCell ⟨g, i * 4, none⟩ (.int .i64 q.kd)).setCell ⟨g, i * 4 + 1, none⟩ (.string q.nd)).setCell ⟨g, i * 4 + 2, none⟩ (.int .i64 q.tm)).setCell ⟨g, i * 4 + 3, none⟩ (.slice q.p q.n q.c) = W := ⟨_, rfl⟩
            have HR5 := Lib.hid (show Al.Rw W5 g n (fun t => if t = i then q else F t) from by have z := HR4.out.put (a := q) hin; unfold Al.st4 at z; rw [hW5] at z; exact z)
            have hg5 := hg4.trans (show GrX g w4 W5 from by have z := Al.st4_grx w4 g i q; unfold Al.st4 at z; rw [hW5] at z; exact z)
            clear HR4 hg4
            -- @h
            go_wp2_with fail
            try rw [hW5]
            -- @i
            go_roundw
            case rel => exact ⟨i + 1, j + 1, _, by go_num, by go_num, HQ, HR5, hg5⟩
            case measure => simp [intOf]; omega
          · have HQ := Lib.hid (HY.out e)
            clear HY HN e q0 q1 q2 q3 p0 p1 p2 p3
            go_wp2_with fail
            -- @g
            go_roundw
            case rel => exact ⟨i, j + 1, F, rfl, by go_num, HQ, HR4, hg4⟩
            case measure => simp [intOf]; omega
        · obtain rfl : n = j := by omega
          have hcell : ∀ t, t < (n - i) * 4 → ∃ u, Own W2 g (i * 4 + t) u := fun t ht => by
            obtain ⟨h0, h1, h2, h3⟩ := HR.out (i + t / 4) (by omega)
            rcases (by omega : t % 4 = 0 ∨ t % 4 = 1 ∨ t % 4 = 2 ∨ t % 4 = 3) with q | q | q | q
            · exact ⟨_, by rw [show i * 4 + t = (i + t / 4) * 4 by omega]; exact h0⟩
            · exact ⟨_, by rw [show i * 4 + t = (i + t / 4) * 4 + 1 by omega]; exact h1⟩
            · exact ⟨_, by rw [show i * 4 + t = (i + t / 4) * 4 + 2 by omega]; exact h2⟩
            · exact ⟨_, by rw [show i * 4 + t = (i + t / 4) * 4 + 3 by omega]; exact h3⟩
          have hcl : ∃ W9, (∀ ty, (Builtin.clear_ #[29] ty #[.slice (some ⟨g, i * 4, none⟩) (n - i) (cp - i)]).run Tryz.prog W2 = .ok (.tuple #[]) W9) ∧ GrX g W2 W9 ∧ Al.Rw W9 g i F := by
            have hz : ∀ w, (zeroValue 35).run Tryz.prog w = .ok (.agg #[.int .i64 0, .string ⟨#[]⟩, .int .i64 0, .slice none 0 0]) w := fun w => by kernel_rfl
            have key := fun ty => run_clear_wide (P := Tryz.prog) W2 29 35 ty _ Tryz.underlying29 hz 4 (by rfl) (by intro v hv; simp [Value.cells] at hv; rcases hv with rfl | rfl | rfl | rfl <;> rfl) g (i * 4) (n - i) (cp - i) (by omega) (fun t ht => by obtain ⟨u, hu⟩ := hcell t ht; rw [hu.1]; rfl) (fun t ht => by obtain ⟨u, hu⟩ := hcell t ht; exact hu.2)
            obtain ⟨vs, hvs, hrun⟩ := key 29
            refine ⟨W2.setCells g (i * 4) vs, fun ty => ?_, Al.grx_setCells g vs _ W2, Al.rw_setCells vs _ (fun t ht => HR.out t (by omega)) (Nat.le_refl _)⟩
            exact hrun
          obtain ⟨W9, hcl, hgx, HR9⟩ := hcl
          have hci : ¬ cp = i := by omega
          have gw9 := GrX.gr g1 (by omega) (hg.trans hgx)
          have HZ := Lib.hid (HFin.out i F W9 (x1.trans (hg.trans hgx)) HR9 HS.out (by omega))
          clear HS HR HP' hgx hg hcell HFin
          have nb0 : (n : Int) ≤ (cp : Int) := by omega
          have nb1 : (cp : Int) ≤ 9223372036854775807 := by omega
          have ib2 : (i : Int) ≤ (n : Int) := by omega
          -- @j
          go_wp2_with fail
          -- @k
          go_ret
          obtain ⟨s, hs1, hs2, hs3⟩ := HZ.out
          exact ⟨s, by rw [← hs1]; rfl, hs2, hs3, gw9⟩
end Go.Proofs.YtllkiadedaghoaaGreat
