/-
  Alarms: slices.Clone and slices.Delete at messages. Typed.
-/
import Derived.Test.YtllkiadedaghoaaGreatAnB
import Derived.Test.YtllkiadedaghoaaGreatCm32
import Derived.Test.YtllkiadedaghoaaGreatCm28
import Derived.Deep.RegionLaw
set_option linter.unusedVariables false
set_option linter.unusedSimpArgs false
namespace Go.Proofs.YtllkiadedaghoaaGreat
open Go.RowKit Go.Shelf Go.Sort
attribute [local go_sem ↓] Go.wp_at_zero Go.wp_at_succ
namespace Al
/-- The cells of a row, one behind the other. -/
def Fl (w : World) (g : Nat) (l : List Value) : Prop := ∀ t u, l[t]? = some u → Go.Proofs.YtllkiadedaghoaaGreat.Own w g t u
theorem Fl.gr {w w' : World} {g : Nat} {l : List Value} (h : Fl w g l) (k : Gr w w') : Fl w' g l := fun t u e => (h t u e).gr k
theorem own_setCells_in {b : Nat} : ∀ (vs : List Value) (o : Nat) (w : World), (∀ t, t < vs.length → ∃ u, Go.Proofs.YtllkiadedaghoaaGreat.Own w b (o + t) u) → ∀ t u, vs[t]? = some u → Go.Proofs.YtllkiadedaghoaaGreat.Own (w.setCells b o vs) b (o + t) u
  | [], _, _, _, t, u, e => by simp at e
  | v :: r, o, w, h, t, u, e => by
    obtain ⟨u0, h0⟩ := h 0 (by simp)
    cases t with
    | zero =>
      simp only [List.getElem?_cons_zero, Option.some.injEq] at e
      subst e
      exact own_setCells r (o + 1) _ (by omega) (Own.set h0)
    | succ t =>
      simp only [List.getElem?_cons_succ] at e
      have key := own_setCells_in (b := b) r (o + 1) (w.setCell ⟨b, o, none⟩ v) (fun k hk => by
        obtain ⟨u1, h1⟩ := h (k + 1) (by simp; omega)
        exact ⟨u1, by rw [show o + 1 + k = o + (k + 1) by omega]; exact Own.other h1 (Or.inr (by omega))⟩) t u e
      rw [show o + (t + 1) = o + 1 + t by omega]
      exact key
theorem own_flat {w : World} {base : Nat} {v : Value} {l : List M} (h : w.ownsRow base 57 5 v l.length (flat l)) : (v = .slice none 0 0 ∧ l = []) ∨ ∃ g cap, v = .slice (some ⟨g, 0, none⟩) l.length cap ∧ base ≤ g ∧ l.length ≤ cap ∧ cap ≤ 9223372036854775807 ∧ Fl w g (flat l) := by
  have h' := h
  obtain ⟨hl, ⟨rfl, z⟩ | ⟨g, cap, cur, rfl, hb, hc, hn, hm, hs, r⟩⟩ := h
  · exact .inl ⟨rfl, List.length_eq_zero_iff.1 z⟩
  · refine .inr ⟨g, cap, rfl, hb, hn, by unfold maxLen at hm; exact hm, fun t u e => ?_⟩
    have hlt := (List.getElem?_eq_some_iff.1 e).1
    rw [flat_len5] at hlt
    exact ⟨(h'.cellAt t (by omega)).trans e, by simp only [World.frozen?, hc]; simp⟩
/-- The slice of a row of messages. -/
theorem Fl.sl {w : World} {g cap : Nat} {l : List M} (h : Fl w g (flat l)) (hn : l.length ≤ cap) (hm : cap ≤ 9223372036854775807) (hok : ∀ m ∈ l, m.Ok) : ∃ s : SlM, (.slice (some ⟨g, 0, none⟩) l.length cap : Value) = .slice s.A s.n s.c ∧ s.At w ∧ s.lst = l := by
  refine ⟨⟨some ⟨g, 0, none⟩, l.length, cap, g, 0, fun i => l[i]!⟩, rfl, ⟨fun _ => rfl, hn, hm, fun i hi => ?_⟩, ?_⟩
  · have hi' : i < l.length := hi
    have key : ∀ c, c < 5 → w.cell? ⟨g, 0 + i * 5 + c, none⟩ = some (l[i]!.enc)[c]! := fun c hc => by
      rw [Nat.zero_add]
      exact (h _ _ (flat_get M.enc 5 (fun _ => rfl) l i c hi' hc)).1
    refine ⟨⟨key 0 (by omega), key 1 (by omega), key 2 (by omega), key 3 (by omega), key 4 (by omega)⟩, ?_⟩
    show l[i]!.Ok
    rw [getElem!_pos l i hi']; exact hok _ (List.getElem_mem _)
  · unfold SlM.lst
    apply List.ext_getElem
    · simp
    · intro i h1 h2; simp [h2]
theorem flat_drop (l : List M) (j : Nat) : ∀ t u, (flat (l.drop j))[t]? = some u → (flat l)[j * 5 + t]? = some u := by
  intro t u e
  rcases Nat.lt_or_ge l.length j with q | q
  · rw [List.drop_eq_nil_of_le (by omega)] at e; simp [flat] at e
  · have : flat l = flat (l.take j) ++ flat (l.drop j) := by rw [← flat_append, List.take_append_drop]
    rw [this, List.getElem?_append_right (by rw [flat_len5, List.length_take]; omega), flat_len5, List.length_take, Nat.min_eq_left q, Nat.add_sub_cancel_left]
    exact e
end Al
set_option maxRecDepth 100000 in
set_option maxHeartbeats 4000000 in
theorem cloneM_any (s : Al.SlM) (w : World) (h : s.At w) (hn : s.n ≤ 100000) : Calls Tryz.prog 40 #[.slice s.A s.n s.c] w fun e w' => ∃ v, e = .returned v ∧ w'.ownsRow w.heap.size 57 5 v s.lst.length (Al.flat s.lst) ∧ Gr w w' := by
  obtain ⟨i1, k0, k1, k2, k3⟩ := info_parts infoM
  have KI := Lib.hid k0; have KZ0 := Lib.hid k1; have KZ1 := Lib.hid k2; have KZ2 := Lib.hid k3
  clear k0 k1 k2 k3
  have q22 : ∀ (w : World) (a : Option Addr) (n c n' c' : Nat), (binOp .eql 22 (.slice a n c) (.slice none n' c')).run Tryz.prog w = .ok (.bool a.isNone) w := fun w a n c n' c' => Lib.run_eql_slice_nil w _ _ a n c n' c' Tryz.underlying22
  cases hA : s.A with
  | none =>
    have h0 : s.n = 0 := by
      rcases Nat.eq_zero_or_pos s.n with q | q
      · exact q
      · have := h.hA q; rw [hA] at this; cases this
    have hl : s.lst = [] := by simp [Al.SlM.lst, h0]
    rw [hl]
    generalize s.n = n at *; generalize s.c = c at *
    clear h hA hl KI
    go_enter Tryz.func40, Tryz.ntmps40
    go_wp2_with fail
    go_ret
    exact ⟨_, rfl, World.ownsRow_nil _ _ _ _, gr_auto⟩
  | some ad =>
    have HC := Lib.hid (fun j u (hj : (Al.flat s.lst)[j]? = some u) => show w.cell? (ad.add j) = some u from by
      have hlt := (List.getElem?_eq_some_iff.1 hj).1
      rw [Al.flat_len5, Al.SlM.lst_len] at hlt
      have h0 : 0 < s.n := by omega
      have h1 := h.hA h0
      rw [hA] at h1
      have h2 := Option.some.inj h1
      have := Al.SlM.rest h (i := 0) h0 j u (by rw [List.drop_zero]; exact hj)
      rw [h2]
      rw [Nat.zero_mul, Nat.add_zero] at this
      exact this)
    have HL := Lib.hid (show (Al.flat s.lst).length = s.n * 5 from by rw [Al.flat_len5, Al.SlM.lst_len])
    have HLn := Lib.hid (Al.SlM.lst_len s)
    have HO := Lib.hid (Al.flat_one s.lst)
    generalize s.lst = d at *
    generalize s.n = n at *; generalize s.c = c at *
    clear h hA
    go_enter Tryz.func40, Tryz.ntmps40
    -- @a
    go_wp2_with (at_builtin; refine wpList_append_own _ rfl _ _ 22 rfl w.heap.size 57 i1 (.agg #[.string ⟨#[]⟩, .int .i64 0, .int .i64 0, .int .i64 0, .int .i64 0]) 5 48 Tryz.underlying22 KI.out KZ0.out KZ1.out KZ2.out rfl (by decide) _ _ [] rfl (own_empty (World.alloc_heap_new w _) (Nat.le_refl _)) ad n c (Al.flat d) rfl HL.out (fun j u hj => cell_later (a := ad.add j) (Gr.alloc (Gr.refl w) _) (HC.out j u hj)) HO.out (by unfold maxLen; omega) (by omega) (by simp) ?_)
    intro v' w9 hown' hgrow hnil
    have g9 : Gr w w9 := Gr.own (Gr.alloc (Gr.refl w) _) (Nat.le_refl _) (own_empty (E := 57) (k := 5) (World.alloc_heap_new w (Obj.cells #[] 57)) (Nat.le_refl _)) hgrow
    have HP := Lib.hid (show w9.ownsRow w.heap.size 57 5 v' d.length (Al.flat d) from by rw [HLn.out]; simpa using hown')
    clear hown' hgrow hnil HC
    go_wp2_with fail
    go_ret
    exact ⟨_, rfl, HP.out, g9⟩
set_option maxRecDepth 100000 in
set_option maxHeartbeats 4000000 in
/-- One message is deleted. -/
theorem delM_any (v : Value) (d : List Al.M) (base i : Nat) (w0 w : World) (g0 : Gr w0 w) (hb : w0.heap.size ≤ base) (h : w.ownsRow base 57 5 v d.length (Al.flat d)) (hok : ∀ m ∈ d, m.Ok) (hi : i < d.length) (hd : d.length ≤ 100000) :
    Calls Tryz.prog 39 #[v, .int .i64 (i : Int), .int .i64 ((i : Int) + 1)] w fun e w' => ∃ s : Al.SlM, e = .returned (.slice s.A s.n s.c) ∧ s.At w' ∧ s.lst = d.eraseIdx i ∧ Gr w0 w' := by
  rcases Al.own_flat h with ⟨rfl, rfl⟩ | ⟨g, cap, rfl, hbg, hnc, hcm, hF⟩
  · simp at hi
  obtain ⟨ii, k0, k1, k2, k3⟩ := info_parts infoM
  have KI := Lib.hid k0; have KZ1 := Lib.hid k2
  clear k0 k1 k2 k3
  obtain ⟨news, hnews⟩ : ∃ news, news = Al.flat (d.drop (i + 1)) := ⟨_, rfl⟩
  have hlen : news.length = (d.length - (i + 1)) * 5 := by rw [hnews, Al.flat_len5, List.length_drop]
  have hget : ∀ t u, news[t]? = some u → Go.Proofs.YtllkiadedaghoaaGreat.Own w.drew g ((i + 1) * 5 + t) u := fun t u e => by
    rw [hnews] at e
    exact (hF _ _ (Al.flat_drop d (i + 1) t u e)).gr (Gr.drew (Gr.refl w))
  obtain ⟨A, hA, hsrc⟩ : ∃ A : Addr, (if cap = i + 1 then some (⟨g, 0, none⟩ : Addr) else some ⟨g, (i + 1) * 5, none⟩) = some A ∧ Hid (∀ t u, news[t]? = some u → w.drew.cell? (A.add t) = some u) := by
    by_cases q : cap = i + 1
    · refine ⟨⟨g, 0, none⟩, by simp [q], fun t u hu => ?_⟩
      have h0 : news.length = 0 := by rw [hlen]; omega
      rw [List.length_eq_zero_iff.1 h0] at hu
      simp at hu
    · refine ⟨⟨g, (i + 1) * 5, none⟩, by simp [q], fun t u hu => ?_⟩
      rw [show (⟨g, (i + 1) * 5, none⟩ : Addr).add t = ⟨g, (i + 1) * 5 + t, none⟩ by simp [Addr.add]]
      exact (hget t u hu).1
  have s1 : Hid (news.length = (d.length - (i + 1)) * 5) := hlen
  have s2 : Hid (∀ u ∈ news, u.oneCell' = true) := by rw [hnews]; exact Al.flat_one _
  have hcell : ∀ t, t < d.length * 5 → ∃ u, Go.Proofs.YtllkiadedaghoaaGreat.Own w.drew g t u := fun t ht => by
    have : t < (Al.flat d).length := by rw [Al.flat_len5]; exact ht
    exact ⟨_, (hF t _ (List.getElem?_eq_getElem this)).gr (Gr.drew (Gr.refl w))⟩
  have s3 : Hid (∀ t, t < news.length → (w.drew.cell? ⟨g, 0 + i * 5 + t, none⟩).isSome = true ∧ w.drew.frozen? ⟨g, 0 + i * 5 + t, none⟩ = false) := by
    intro t ht
    rw [hlen] at ht
    obtain ⟨u, hu⟩ := hcell (i * 5 + t) (by omega)
    rw [Nat.zero_add]
    exact ⟨by rw [hu.1]; rfl, hu.2⟩
  obtain ⟨W1, hW1⟩ : ∃ W1, W1 = w.drew.setCells g (0 + i * 5) news := ⟨_, rfl⟩
  have hF1 : Al.Fl W1 g (Al.flat (d.eraseIdx i)) := by
    intro t u e
    rw [List.eraseIdx_eq_take_drop_succ, Al.flat_append] at e
    rw [hW1, Nat.zero_add]
    rcases Nat.lt_or_ge t (i * 5) with q | q
    · rw [List.getElem?_append_left (by rw [Al.flat_len5, List.length_take]; omega)] at e
      refine Al.own_setCells news (i * 5) w.drew q ((hF t u ?_).gr (Gr.drew (Gr.refl w)))
      have : Al.flat d = Al.flat (d.take i) ++ Al.flat (d.drop i) := by rw [← Al.flat_append, List.take_append_drop]
      rw [this, List.getElem?_append_left (by rw [Al.flat_len5, List.length_take]; omega)]
      exact e
    · rw [List.getElem?_append_right (by rw [Al.flat_len5, List.length_take]; omega), Al.flat_len5, List.length_take, Nat.min_eq_left (by omega), ← hnews] at e
      have := Al.own_setCells_in (b := g) news (i * 5) w.drew (fun k hk => hcell _ (by rw [hlen] at hk; omega)) (t - i * 5) u e
      rw [show i * 5 + (t - i * 5) = t by omega] at this
      exact this
  have hcell1 : ∀ t, t < d.length * 5 → ∃ u, Go.Proofs.YtllkiadedaghoaaGreat.Own W1 g t u := fun t ht => by
    obtain ⟨u, hu⟩ := hcell t ht
    have hx : GrX g w.drew W1 := hW1 ▸ Al.grx_setCells g news _ _
    have h1 := hx.own (o := t) (by rw [hu.1]; rfl)
    exact ⟨_, h1, (hx.free t (by rw [hu.1]; rfl)).trans hu.2⟩
  have hel : (d.eraseIdx i).length = d.length - 1 := List.length_eraseIdx_of_lt hi
  have hcl : ∃ W9, (∀ ty, (Builtin.clear_ #[22] ty #[.slice (some ⟨g, (i + (d.length - (i + 1))) * 5, none⟩) (d.length - (i + (d.length - (i + 1)))) (cap - (i + (d.length - (i + 1))))]).run Tryz.prog W1 = .ok (.tuple #[]) W9) ∧ GrX g W1 W9 ∧ Al.Fl W9 g (Al.flat (d.eraseIdx i)) := by
    have hz : ∀ w, (zeroValue 57).run Tryz.prog w = .ok (.agg #[.string ⟨#[]⟩, .int .i64 0, .int .i64 0, .int .i64 0, .int .i64 0]) w := fun w => by kernel_rfl
    have key := fun ty => run_clear_wide (P := Tryz.prog) W1 22 57 ty _ Tryz.underlying22 hz 5 (by rfl) (by intro v hv; simp [Value.cells] at hv; rcases hv with rfl | rfl | rfl | rfl | rfl <;> rfl) g ((i + (d.length - (i + 1))) * 5) (d.length - (i + (d.length - (i + 1)))) (cap - (i + (d.length - (i + 1)))) (by omega) (fun t ht => by obtain ⟨u, hu⟩ := hcell1 ((i + (d.length - (i + 1))) * 5 + t) (by omega); rw [hu.1]; rfl) (fun t ht => by obtain ⟨u, hu⟩ := hcell1 ((i + (d.length - (i + 1))) * 5 + t) (by omega); exact hu.2)
    obtain ⟨vs, hvs, hrun⟩ := key 22
    refine ⟨W1.setCells g ((i + (d.length - (i + 1))) * 5) vs, fun ty => hrun, Al.grx_setCells g vs _ W1, fun t u e => Al.own_setCells vs _ W1 ?_ (hF1 t u e)⟩
    have hlt := (List.getElem?_eq_some_iff.1 e).1
    rw [Al.flat_len5, hel] at hlt
    omega
  obtain ⟨W9, hcl, hgx, hF9⟩ := hcl
  have gz : Gr w0 W9 := GrX.gr g0 (by omega) ((((GrX.refl g w).drew).trans (show GrX g w.drew W1 from hW1 ▸ Al.grx_setCells g news _ _)).trans hgx)
  have HR := Lib.hid (show ∃ s : Al.SlM, (.slice (some ⟨g, 0, none⟩) (i + (d.length - (i + 1))) cap : Value) = .slice s.A s.n s.c ∧ s.At W9 ∧ s.lst = d.eraseIdx i from by
    obtain ⟨s, h1, h2, h3⟩ := Al.Fl.sl (cap := cap) hF9 (by rw [hel]; omega) hcm (fun m hm => hok m (List.mem_of_mem_eraseIdx hm))
    rw [hel, show d.length - 1 = i + (d.length - (i + 1)) by omega] at h1
    exact ⟨s, h1, h2, h3⟩)
  have hW : Hid (W1 = w.drew.setCells g (0 + i * 5) news) := hW1
  have hic : i ≤ cap := by omega
  have hjc : i + 1 ≤ cap := by omega
  clear hF1 hW1 hgx hF9 hF hnews hlen hget hcell hcell1 hel h hok
  obtain ⟨n, hn⟩ : ∃ n, d.length = n := ⟨_, rfl⟩
  rw [hn] at s1 HR hcl hi hnc hd
  rw [hn]
  generalize d.eraseIdx i = LE at *
  clear hn d
  have ia : (0 : Int) ≤ (i : Int) := by omega
  have ib : (i : Int) ≤ (n : Int) := by omega
  have ic : ((i + 1 : Nat) : Int) ≤ (n : Int) := by omega
  have ie : (i : Int) ≤ ((i + 1 : Nat) : Int) := by omega
  have ia2 : (0 : Int) ≤ (i : Int) + 1 := by omega
  have ic2 : (i : Int) + 1 ≤ (n : Int) := by omega
  have ne1 : ((i : Int) == ((i + 1 : Nat) : Int)) = false := beq_eq_false_iff_ne.2 (by omega)
  go_enter Tryz.func39, Tryz.ntmps39
  -- @a
  go_wp2_with fail
  -- @b
  go_region_law (refine step_append_room rfl (.tmp 22) (.tmp 25) 22 rfl 57 ii 5 Tryz.underlying22 KI.out KZ1.out g 0 i cap (by simp [Act.eval, Act.put]) A (n - (i + 1)) (cap - (i + 1)) news (by simp [Act.eval, Act.put]) s1.out hsrc.out s2.out (by omega) s3.out ?_; rw [← hW.out])
  -- @c
  go_wp2_with fail
  go_ret
  obtain ⟨s, h1, h2, h3⟩ := HR.out
  exact ⟨s, by rw [← h1]; rfl, h2, h3, gz⟩
end Go.Proofs.YtllkiadedaghoaaGreat
