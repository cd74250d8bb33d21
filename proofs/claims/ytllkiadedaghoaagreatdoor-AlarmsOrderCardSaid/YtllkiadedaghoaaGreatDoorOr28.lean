/-
  Alarms: byNode. Typed.
-/
import Derived.Test.YtllkiadedaghoaaGreatDoorOr26
import Derived.Test.YtllkiadedaghoaaGreatDoorOr25
import Derived.Test.YtllkiadedaghoaaGreatDoorOr27
import Derived.Deep.AppendLies
import Derived.Deep.RegionWith
import Derived.Deep.RegionLaw
set_option linter.unusedVariables false
set_option linter.unusedSimpArgs false
namespace Go.Proofs.YtllkiadedaghoaaGreatDoor
open Go.RowKit Go.Maps
attribute [local go_sem ↓] Go.wp_at_zero Go.wp_at_succ
namespace Al
def own (L : List M) (s : ByteArray) : List M := L.filter fun m => Ba.eqS m.nd s
/-- A map of rows: under each node's name its messages. -/
def Rows (w : World) (base : Nat) (f : Value → Option Value) (L : List M) : Prop :=
  (∀ key v, f key = some v → ∃ s : ByteArray, key = .string s ∧ own L s ≠ []) ∧ ∀ s, w.ownsRow base 53 5 ((f (.string s)).getD (.slice none 0 0)) (own L s).length (flat (own L s))
theorem Rows.nil (w : World) (base : Nat) : Rows w base (fun _ => none) [] := ⟨fun key v h => (by cases h), fun s => World.ownsRow_nil _ _ _ _⟩
theorem Rows.gr {w w' : World} {base : Nat} {f : Value → Option Value} {L : List M} (h : Rows w base f L) (g : Gr w w') : Rows w' base f L := ⟨h.1, fun s => ownsRow_gr (h.2 s) g⟩
theorem own_snoc (L : List M) (m : M) (s : ByteArray) : own (L ++ [m]) s = own L s ++ (if Ba.eqS m.nd s = true then [m] else []) := by
  unfold own; rw [List.filter_append]
  congr 1
  simp [List.filter_cons]
theorem own_mem {L : List M} {s : ByteArray} {m : M} (h : m ∈ own L s) : m.nd = s := by
  unfold own at h
  exact (eqS_iff' _ _).1 (List.mem_filter.1 h).2
/-- Rows of two nodes do not share a block. -/
theorem Rows.apart {w : World} {base : Nat} {f : Value → Option Value} {L : List M} (h : Rows w base f L) {s t : ByteArray} (hne : s ≠ t) {g : Nat} (hs : ((f (.string s)).getD (.slice none 0 0)).ownBlock = some g) : ((f (.string t)).getD (.slice none 0 0)).ownBlock ≠ some g := by
  intro ht
  have head : ∀ u : ByteArray, ((f (.string u)).getD (.slice none 0 0)).ownBlock = some g → own L u ≠ [] → w.cell? ⟨g, 0, none⟩ = some (.string u) := fun u hu h0 => by
    have hr := h.2 u
    obtain ⟨hl, ⟨hv, z⟩ | ⟨g', cap, cur, hv, hb, hc, hn, hm, hsz, r⟩⟩ := hr
    · rw [hv] at hu; cases hu
    · rw [hv] at hu
      simp only [Value.ownBlock, Option.some.injEq] at hu
      subst hu
      cases e : own L u with
      | nil => exact absurd e h0
      | cons m L' =>
        have hm' : m.nd = u := own_mem (L := L) (by rw [e]; simp)
        rw [e] at r
        have : cur.toList[0]? = some (.string u) := by
          have z := congrArg (fun l : List Value => l[0]?) r
          simp only [List.getElem?_take_of_lt (show 0 < (m :: L').length * 5 by simp)] at z
          rw [z]
          simp [flat, M.enc, hm']
        simp only [World.cell?, hc]
        simpa using this
  have full : ∀ u : ByteArray, ((f (.string u)).getD (.slice none 0 0)).ownBlock = some g → own L u ≠ [] := fun u hu => by
    cases e : f (.string u) with
    | none => rw [e] at hu; cases hu
    | some v =>
      obtain ⟨s', hs', h0⟩ := h.1 _ v e
      simp only [Value.string.injEq] at hs'
      rw [hs']; exact h0
  have a := head s hs (full s hs)
  have b := head t ht (full t ht)
  rw [a] at b
  simp only [Option.some.injEq, Value.string.injEq] at b
  exact hne b
theorem ownsRow_keep {w w' : World} {base E size n : Nat} {v : Value} {xs : List Value} (h : w.ownsRow base E size v n xs) (hk : ∀ g, v.ownBlock = some g → w'.heap[g]? = w.heap[g]?) : w'.ownsRow base E size v n xs := by
  obtain ⟨hl, h | ⟨g, cap, cur, hv, hb, hc, r⟩⟩ := h
  · exact ⟨hl, Or.inl h⟩
  · exact ⟨hl, Or.inr ⟨g, cap, cur, hv, hb, (hk g (by rw [hv]; rfl)).trans hc, r⟩⟩
/-- A message put behind the row of its node. -/
theorem Rows.put {w w2 w9 w8 : World} {base MB : Nat} {f : Value → Option Value} {L : List M} (h : Rows w base f L) (m : M) {v9 : Value} (hg : Gr w w2) (hown : w9.ownsRow base 53 5 v9 ((own L m.nd).length + 1) (flat (own L m.nd) ++ m.enc)) (hgrow : w2.grownBy w9 ((f (.string m.nd)).getD (.slice none 0 0)).ownBlock) (hx : GrX MB w9 w8) (hMB : MB < base) :
    ∃ f', f' (.string m.nd) = some v9 ∧ (∀ x, x ≠ .string m.nd → f' x = f x) ∧ Rows w8 base f' (L ++ [m]) := by
  classical
  have hrows : ∀ (v : Value) (n : Nat) (xs : List Value), w9.ownsRow base 53 5 v n xs → w8.ownsRow base 53 5 v n xs := fun v n xs hr => ownsRow_keep hr fun g hgv => by
    have := hr.lt g hgv
    exact hx.block g this.2 (by omega)
  refine ⟨fun x => if x = .string m.nd then some v9 else f x, by simp, fun x hx' => by simp [hx'], fun key v hkey => ?_, fun s => ?_⟩
  · by_cases e : key = .string m.nd
    · exact ⟨m.nd, e, by rw [own_snoc, if_pos ((eqS_iff' _ _).2 rfl)]; simp⟩
    · simp only [e, if_false] at hkey
      obtain ⟨s, hs, hne⟩ := h.1 key v hkey
      exact ⟨s, hs, by rw [own_snoc]; simp [hne]⟩
  · by_cases e : s = m.nd
    · subst e
      simp only [if_true, Option.getD_some]
      rw [own_snoc, if_pos ((eqS_iff' _ _).2 rfl), flat_snoc]
      exact hrows _ _ _ (by simpa using hown)
    · have e1 : ¬ (Value.string s = Value.string m.nd) := fun q => e (by simpa using q)
      simp only [e1, if_false]
      have e2 : Ba.eqS m.nd s = false := by
        cases q : Ba.eqS m.nd s with
        | false => rfl
        | true => exact absurd ((eqS_iff' _ _).1 q).symm e
      rw [own_snoc, e2]
      simp only [Bool.false_eq_true, if_false, List.append_nil]
      refine hrows _ _ _ (ownsRow_keep (ownsRow_gr (h.2 s) hg) fun g hgv => ?_)
      refine hgrow.block g ((ownsRow_gr (h.2 s) hg).lt g hgv).2 fun q => ?_
      exact h.apart e hgv q.symm
end Al
theorem keyed_str : Keyed Tryz.prog 9 := string_keyed Tryz.underlying9
theorem key_str (s : ByteArray) (h : s.size ≤ 9223372036854775807) : ∃ l, keyOf Tryz.prog 9 (.string s) = some l := ⟨_, Go.WideMaps.keyOf_string_mk Tryz.underlying9 (by unfold maxLen; exact h)⟩
theorem zero_msgs (w : World) : (zeroValue 26).run Tryz.prog w = .ok (.slice none 0 0) w := by kernel_rfl
set_option maxRecDepth 100000 in
set_option maxHeartbeats 4000000 in
theorem bynode_any (s : Al.SlM) (w : World) (h : s.At w) (hv : s.vB = true) : Calls Tryz.prog 110 #[.slice s.A s.n s.c] w fun e w' => ∃ (MB n : Nat) (f : Value → Option Value), e = .returned (.map (some MB)) ∧ MapIs Tryz.prog 9 w' MB n f ∧ Al.Rows w' w.heap.size f (Al.srtM s.lst) ∧ w.heap.size ≤ MB ∧ Gr w w' := by
  have HS := Lib.hid (tsorted_any s w h hv)
  have hvl := ((Al.vB_iff s).1 hv).perm (Al.srtM_perm s.lst).symm
  have hlen : (Al.srtM s.lst).length ≤ 10000 := hvl.1
  clear h hv hvl
  generalize Al.srtM s.lst = L at *
  generalize s.A = A0 at *; generalize s.n = n0 at *; generalize s.c = c0 at *
  obtain ⟨i1, k0, k1, k2, k3⟩ := info_parts infoM
  have KI := Lib.hid k0; have KZ0 := Lib.hid k1; have KZ1 := Lib.hid k2; have KZ2 := Lib.hid k3
  clear k0 k1 k2 k3
  have hmm := @run_makeMap Tryz.prog
  go_enter Tryz.func110, Tryz.ntmps110
  go_wp2_with fail
  refine HS.out.mono ?_
  rintro e w1 ⟨g, cap, rfl, hat, hg1⟩
  clear HS
  have HA := Lib.hid hat.hA; have HX := Lib.hid hat.hD
  have hc := hat.hc; have hb := hat.hb
  clear hat
  have hnn : (Al.ofRow g cap L).n = L.length := rfl
  have HN := Lib.hid hnn
  have hDD : ∀ i (hi : i < L.length), (Al.ofRow g cap L).D i = L[i] := fun i hi => by simp [Al.ofRow, hi]
  replace hDD := Lib.hid hDD
  rw [← hnn] at hlen
  clear hnn
  generalize Al.ofRow g cap L = T at *
  cases T with | mk A n c b o D =>
  simp only [] at *
  go_wp2_with fail
  go_loopw [16] (fun x wr => ∃ i : Nat, i ≤ n ∧ x = .int .i64 (i : Int) ∧ (∃ f, Hid (MapIs Tryz.prog 9 wr w1.heap.size i f) ∧ Hid (Al.Rows wr (w1.heap.size + 1) f (L.take i))) ∧ Gr w1 wr) (fun x _ => n - (intOf x).toNat)
  case atStart => exact ⟨0, Nat.zero_le _, rfl, ⟨_, Lib.hid (MapIs.made _ _ _), Lib.hid (Al.Rows.nil _ _)⟩, gr_auto⟩
  case round =>
    obtain ⟨i, hi, rfl, ⟨f, HM, HR⟩, hg⟩ := hrel
    by_cases hlt : i < n
    · obtain rfl := HA.out (by omega)
      obtain ⟨hcl, hok⟩ := HX.out i hlt
      obtain ⟨a0, a1, a2, a3, a4⟩ := hcl.gr hg
      have ib0 : (0 : Int) ≤ (i : Int) := by omega
      have ib1 : (i : Int) < (n : Int) := by omega
      have hMlt := HM.out.lt
      obtain ⟨kl, hkl⟩ := key_str (D i).nd hok.nd
      have hlk : ∀ W, Gr wr W → (Instr.lookup 139 (.map (some w1.heap.size)) (.string (D i).nd) false).run Tryz.prog W = .ok ((f (.string (D i).nd)).getD (.slice none 0 0)) W := fun W hW => by
        have z := (HM.out.gr hW).look false keyed_str Tryz.underlying139 (zero_msgs W) hkl
        rw [if_neg (by decide)] at z
        exact z
      have HDD' := Lib.hid ((hDD.out i (by rw [← HN.out]; exact hlt)).symm)
      clear HX HA hcl hDD
      generalize D i = d at *
      go_wp2_with fail
      refine name_world ?_
      intro WK hWK
      have gK : Gr wr WK := by rw [hWK]; exact Gr.alloc (Gr.refl _) _
      have p0 : WK.cell? ⟨wr.heap.size, 0, none⟩ = some (.string d.nd) := by rw [hWK]; simp [go_sem]
      have p1 : WK.cell? ⟨wr.heap.size, 1, none⟩ = some (.int .i64 d.nu) := by rw [hWK]; simp [go_sem]
      have p2 : WK.cell? ⟨wr.heap.size, 2, none⟩ = some (.int .i64 d.tm) := by rw [hWK]; simp [go_sem]
      have p3 : WK.cell? ⟨wr.heap.size, 3, none⟩ = some (.int .i64 d.ar) := by rw [hWK]; simp [go_sem]
      have p4 : WK.cell? ⟨wr.heap.size, 4, none⟩ = some (.int .i64 d.lv) := by rw [hWK]; simp [go_sem]
      have hz : wr.heap.size < WK.heap.size := by rw [hWK]; simp
      have hwz := Gr.size hg
      clear hWK a0 a1 a2 a3 a4
      have HO := Lib.hid (HR.out.2 d.nd)
      obtain ⟨va, hva⟩ : ∃ va, (f (.string d.nd)).getD (.slice none 0 0) = va := ⟨_, rfl⟩
      rw [hva] at hlk HO
      have HV := Lib.hid hva
      have hkn : (Al.own (L.take i) d.nd).length ≤ 10000 := by
        have := (List.filter_sublist (l := L.take i) (p := fun m => Ba.eqS m.nd d.nd)).length_le
        unfold Al.own
        rw [List.length_take] at this; omega
      have l0 := hlk WK.drew gK.drew
      have l1 := fun o => hlk (WK.drew.alloc o) (gK.drew.alloc o)
      have l2 := fun o => hlk (WK.alloc o).drew (gK.alloc o).drew
      have HGK := Lib.hid gK
      clear hlk hva gK
      have hMB : w1.heap.size < WK.heap.size := by omega
      have hone : ∀ u ∈ [Value.string d.nd, .int .i64 d.nu, .int .i64 d.tm, .int .i64 d.ar, .int .i64 d.lv], u.oneCell' = true := by simp [Value.oneCell']
      have hmx : (Al.own (L.take i) d.nd).length + 1 ≤ maxLen := by unfold maxLen; omega
      have hby : ((Al.own (L.take i) d.nd).length + 1) * 48 ≤ 140737488355328 := by omega
      have hbs : w1.heap.size + 1 ≤ WK.heap.size := by omega
      replace hone := Lib.hid hone; replace hmx := Lib.hid hmx; replace hby := Lib.hid hby; replace hbs := Lib.hid hbs
      have HBV := Lib.hid (show some w1.heap.size ≠ va.ownBlock from own_far HO.out (by omega))
      have HGB := Lib.hid (fun (o : Obj) (w9 : World) (h : (WK.drew.alloc o).grownBy w9 va.ownBlock) => show WK.grownBy w9 va.ownBlock from ⟨h.os, h.tape, h.output, Nat.le_trans (by simp) h.size, fun k hk hr => (h.block k (by simp; omega) hr).trans (heap_alloc_old _ _ hk)⟩)
      have HGR := Lib.hid (fun (o : Obj) (w9 : World) (h : (WK.drew.alloc o).grownBy w9 va.ownBlock) => show Gr w1 w9 from Gr.own (hg.trans (HGK.out.trans (Gr.alloc (Gr.drew (Gr.refl _)) o))) (Nat.le_succ _) (ownsRow_gr HO.out (HGK.out.trans (Gr.alloc (Gr.drew (Gr.refl _)) o))) h)
      have HC9 := Lib.hid (fun (o : Obj) (w9 : World) (h : (WK.drew.alloc o).grownBy w9 va.ownBlock) => show w9.cell? ⟨wr.heap.size, 0, none⟩ = some (.string d.nd) from by
        rw [← p0]
        exact World.cell?_of_block (w := WK) ((HGB.out o w9 h).block _ hz fun e => by have := (HO.out.lt wr.heap.size e.symm).2; omega))
      go_region_law (refine step_append_lies _ (by rfl) _ _ 26 (by rfl) (w1.heap.size + 1) 53 i1 (.agg #[.string ⟨#[]⟩, .int .i64 0, .int .i64 0, .int .i64 0, .int .i64 0]) 5 48 Tryz.underlying26 KI.out KZ0.out KZ1.out KZ2.out rfl (by decide) va _ _ (by rfl) (ownsRow_gr HO.out (by exact HGK.out.trans gr_auto)) ⟨WK.heap.size, 0, none⟩ 1 1 [.string d.nd, .int .i64 d.nu, .int .i64 d.tm, .int .i64 d.ar, .int .i64 d.lv] (by rfl) rfl (cells_new WK #[.string d.nd, .int .i64 d.nu, .int .i64 d.tm, .int .i64 d.ar, .int .i64 d.lv] 53) hone.out (by decide) hmx.out hby.out (by first | exact hbs.out | (simp; have := hbs.out; omega)) _ rfl ?_; intro g9 cp9 w9 hown9 hgrow9 hat9 hlt9; have hg9 := HGR.out _ _ hgrow9; have c9 := HC9.out _ _ hgrow9; have hm9 := (HM.out.gr HGK.out).grownBy (w' := w9) (row := va.ownBlock) (HGB.out _ _ hgrow9) HBV.out; obtain ⟨w8, hrun, hst, hgb, hgx⟩ := hm9.store (val := .slice (some ⟨g9, 0, none⟩) ((Al.own (L.take i) d.nd).length + 1) cp9) keyed_str Tryz.underlying139 hkl)
      all_goals (
        obtain ⟨f', e1, e2, hrows⟩ := Al.Rows.put HR.out d (w2 := WK.drew.alloc _) (HGK.out.drew.alloc _) hown9 (by rw [HV.out]; exact hgrow9) hgx (Nat.lt_succ_self _)
        have HM' := Lib.hid (hst f' e1 e2)
        have HR' := Lib.hid (show Al.Rows w8 (w1.heap.size + 1) f' (L.take (i + 1)) from by
          rw [List.take_succ_eq_append_getElem (by rw [← HN.out]; exact hlt), HDD'.out]; exact hrows)
        have g8 : Gr w1 w8 := GrX.gr hg9 (Nat.le_refl _) hgx
        clear hrun hst hgb hgx e1 e2 hrows hown9 hgrow9 hat9 hlt9 hm9 c9 HM HR HO HV HBV HGB HGR HC9 l0 l1 l2
        go_wp2_with fail
        go_roundw
        case rel => exact ⟨i + 1, by omega, by go_num, ⟨f', HM', HR'⟩, g8⟩
        case measure => simp [intOf]; omega)
    · obtain rfl : n = i := by omega
      have HRf := Lib.hid (show Al.Rows wr (w1.heap.size + 1) f L from by have := HR.out; rw [HN.out, List.take_length] at this; exact this)
      have g1 : Gr w wr := hg1.trans hg
      have hz := Gr.size hg1
      clear HX HA HR hDD HN
      go_wp2_with fail
      go_ret
      exact ⟨_, _, f, rfl, HM.out, ⟨HRf.out.1, fun s => ownsRow_base (HRf.out.2 s) (by omega)⟩, hz, g1⟩
end Go.Proofs.YtllkiadedaghoaaGreatDoor
