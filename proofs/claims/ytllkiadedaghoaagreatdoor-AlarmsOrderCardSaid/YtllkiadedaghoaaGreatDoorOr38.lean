/-
  Alarms: jumps. (Printed by mkav.py.)
-/
import Derived.Test.YtllkiadedaghoaaGreatDoorOr37
import Derived.Deep.AppendLies
import Derived.Deep.RegionWith
import Derived.Deep.RegionLaw
set_option linter.unusedVariables false
set_option linter.unusedSimpArgs false
namespace Go.Proofs.YtllkiadedaghoaaGreatDoor
open Go.RowKit Go.Maps Go.Sort
attribute [local go_sem ↓] Go.wp_at_zero Go.wp_at_succ
namespace Al
/-- Two messages, as a slice. -/
def SlM.two (B : Nat) (m k : M) : SlM := ⟨some ⟨B, 0, none⟩, 2, 2, B, 0, fun i => if i = 0 then m else k⟩
theorem SlM.two_at {w : World} {B : Nat} {m k : M} {t : TypeId} {fr : Nat × Nat} (h : w.heap[B]? = some (.cells #[.string m.nd, .int .i64 m.nu, .int .i64 m.tm, .int .i64 m.ar, .int .i64 m.lv, .string k.nd, .int .i64 k.nu, .int .i64 k.tm, .int .i64 k.ar, .int .i64 k.lv] t fr)) (hm : m.Ok) (hk : k.Ok) : (SlM.two B m k).At w := by
  refine ⟨fun _ => rfl, Nat.le_refl _, show 2 ≤ 9223372036854775807 by decide, fun i hi => ?_⟩
  have hi' : i < 2 := hi
  rcases (by omega : i = 0 ∨ i = 1) with rfl | rfl
  · refine ⟨⟨?_, ?_, ?_, ?_, ?_⟩, hm⟩ <;> simp [SlM.two, World.cell?, h]
  · refine ⟨⟨?_, ?_, ?_, ?_, ?_⟩, hk⟩ <;> simp [SlM.two, World.cell?, h]
theorem SlM.two_lst (B : Nat) (m k : M) : (SlM.two B m k).lst = [m, k] := by simp [SlM.two, SlM.lst, List.range_succ]
/-- The row of a node's messages, as its cells say. -/
theorem Rows.at {w : World} {base : Nat} {f : Value → Option Value} {L : List M} (h : Rows w base f L) {key v : Value} (hk : f key = some v) : ∃ (s : ByteArray) (g cap : Nat), key = .string s ∧ own L s ≠ [] ∧ v = .slice (some ⟨g, 0, none⟩) (own L s).length cap ∧ (own L s).length ≤ cap ∧ cap ≤ maxLen ∧ ∀ i (hi : i < (own L s).length), ((own L s)[i]).Cells w g (0 + i * 5) := by
  obtain ⟨s, rfl, hne⟩ := h.1 key v hk
  have hr := h.2 s
  rw [hk, Option.getD_some] at hr
  obtain ⟨g, cap, rfl, -, -, hn, hm, hE⟩ := rowE_of (enc := M.enc) (k := 5) (fun x => rfl) (show w.ownsRow base 53 5 v (own L s).length ((own L s).flatMap M.enc) from hr) hne
  refine ⟨s, g, cap, rfl, hne, rfl, hn, hm, fun i hi => ?_⟩
  have z := hE i hi
  rw [getElem!_pos _ i hi] at z
  rw [Nat.zero_add]
  exact ⟨(z 0 (by omega)).1, (z 1 (by omega)).1, (z 2 (by omega)).1, (z 3 (by omega)).1, (z 4 (by omega)).1⟩
/-- A row of alarms beside an iterator that turns. -/
theorem OwnA.iter {w w' : World} {base r : Nat} {v : Value} {d : List Al.A} (h : OwnA w base v d) (g : GrX r w w') (hr : ∀ cur t fr, w.heap[r]? ≠ some (.cells cur t fr)) : OwnA w' base v d := by
  refine ⟨ownsRow_keep h.row fun b hb => ?_, fun a ha => (h.own a ha).keep (g.block a.b (h.own a ha).ib.lt fun e => ?_)⟩
  · refine g.block b (h.row.lt b hb).2 fun e => ?_
    obtain ⟨hl, ⟨rfl, -⟩ | ⟨g', cap, cur, rfl, hb2, hc, -⟩⟩ := h.row
    · cases hb
    · simp only [Value.ownBlock, Option.some.injEq] at hb
      rw [e] at hb
      rw [hb] at hc
      exact hr _ _ _ hc
  · obtain ⟨c, f, hc⟩ := (h.own a ha).ib
    rw [e] at hc
    exact hr _ _ _ hc
theorem jmp_len (most : Int) : ∀ l : List M, (jmp most l).length ≤ l.length
  | [] => by simp [jmp]
  | [a] => by simp [jmp]
  | a :: b :: r => by
    rw [jmp, List.length_append, List.length_cons]
    have := jmp_len most (b :: r)
    split <;> simp at * <;> omega
/-- The nodes that have come up: their rows together are not longer than all messages. -/
theorem flat_len {α : Type} {L : List M} (F : ByteArray → List α) (hF : ∀ s, (F s).length ≤ (own L s).length) : ∀ ss : List ByteArray, ss.Nodup → (ss.flatMap F).length ≤ L.length := by
  have key : ∀ (ss : List ByteArray), ss.Nodup → (ss.flatMap fun s => own L s).length ≤ L.length := by
    clear hF
    induction L with
    | nil =>
      intro ss _
      induction ss with
      | nil => exact Nat.le_refl _
      | cons s ss ih => rw [List.flatMap_cons]; exact ih (List.nodup_cons.1 (by assumption)).2
    | cons m L ih =>
      intro ss hn
      have h1 : ∀ ss : List ByteArray, ss.Nodup → (ss.flatMap fun s => own (m :: L) s).length ≤ (ss.flatMap fun s => own L s).length + 1 ∧ (m.nd ∉ ss → (ss.flatMap fun s => own (m :: L) s).length = (ss.flatMap fun s => own L s).length) := by
        intro ss
        induction ss with
        | nil => intro _; exact ⟨Nat.le_succ _, fun _ => rfl⟩
        | cons s ss ih2 =>
          intro hn
          rw [List.nodup_cons] at hn
          obtain ⟨a, b⟩ := ih2 hn.2
          have e : own (m :: L) s = (if Ba.eqS m.nd s = true then [m] else []) ++ own L s := by unfold own; rw [List.filter_cons]; split <;> rfl
          rw [List.flatMap_cons, List.flatMap_cons, List.length_append, List.length_append, e, List.length_append]
          by_cases q : Ba.eqS m.nd s = true
          · rw [if_pos q, List.length_singleton]
            have q' := (eqS_iff' _ _).1 q
            have := b (by rw [q']; exact hn.1)
            refine ⟨by omega, fun h => absurd (by rw [q']; simp) h⟩
          · rw [if_neg q, List.length_nil]
            refine ⟨by omega, fun h => ?_⟩
            have := b (fun z => h (by simp [z]))
            omega
      have a := (h1 ss hn).1
      have b := ih ss hn
      rw [List.length_cons]
      omega
  intro ss hn
  have h2 : ∀ ss : List ByteArray, (ss.flatMap F).length ≤ (ss.flatMap fun s => own L s).length := by
    intro ss
    induction ss with
    | nil => exact Nat.le_refl _
    | cons s ss ih => rw [List.flatMap_cons, List.flatMap_cons, List.length_append, List.length_append]; have := hF s; omega
  exact Nat.le_trans (h2 ss) (key ss hn)
/-- When every node has come up. -/
theorem come_up {α : Type} {l : List M} {f : Value → Option Value} {ss : List ByteArray} (F : ByteArray → List α) (hn : ss.Nodup) (hs : ∀ s, (f (.string s)).isSome = true ↔ own (srtM l) s ≠ []) (hall : ∀ key, (f key).isSome = true → key ∈ ss.map Value.string) (hin : ∀ s ∈ ss, (f (.string s)).isSome = true) : (ss.flatMap F).Perm ((nds l).flatMap F) := by
  refine List.Perm.flatMap_right F (perm_of_mem hn (nds_nodup l) fun s => ?_)
  have e : own (srtM l) s ≠ [] ↔ s ∈ nds l := by
    rw [mem_nds]
    unfold own
    rw [Ne, List.filter_eq_nil_iff]
    constructor
    · intro h
      simp only [Classical.not_forall] at h
      obtain ⟨m, hm, h⟩ := h
      exact ⟨m, (srtM_perm l).mem_iff.1 hm, (eqS_iff' _ _).1 (by simpa using h)⟩
    · rintro ⟨m, hm, e⟩ h
      exact h m ((srtM_perm l).mem_iff.2 hm) ((eqS_iff' _ _).2 e)
  rw [← e, ← hs s]
  refine ⟨hin s, fun h => ?_⟩
  obtain ⟨x, hx, e⟩ := List.mem_map.1 (hall _ h)
  simp only [Value.string.injEq] at e
  rw [← e]; exact hx
theorem Rows.isSome {w : World} {base : Nat} {f : Value → Option Value} {L : List M} (h : Rows w base f L) (s : ByteArray) : (f (.string s)).isSome = true ↔ own L s ≠ [] := by
  constructor
  · intro q
    obtain ⟨v, hv⟩ := Option.isSome_iff_exists.1 q
    obtain ⟨t, ht, hne⟩ := h.1 _ _ hv
    simp only [Value.string.injEq] at ht
    rw [ht]; exact hne
  · intro q
    cases e : f (.string s) with
    | some v => rfl
    | none =>
      have hr := h.2 s
      rw [e] at hr
      obtain ⟨hl, ⟨-, z⟩ | ⟨g, cap, cur, hv, -⟩⟩ := hr
      · exact absurd (List.length_eq_zero_iff.1 z) q
      · cases hv
end Al
set_option maxRecDepth 100000 in
set_option maxHeartbeats 4000000 in
theorem jumps_any (s : Al.SlM) (most : Int) (w : World) (h : s.At w) (hv : s.vB = true) (hmo : 0 ≤ most ∧ most ≤ 8388608) : Calls Tryz.prog 71 #[.slice s.A s.n s.c, .int .i64 most] w (Al.RetO (Al.jmpC most s.lst) w) := by
  have HAl := Lib.hid (fun (W W' : World) (m k : Al.M) (hm : m.Ok) (hk : k.Ok) (he : W'.heap = (W.alloc (.cells #[.string m.nd, .int .i64 m.nu, .int .i64 m.tm, .int .i64 m.ar, .int .i64 m.lv, .string k.nd, .int .i64 k.nu, .int .i64 k.tm, .int .i64 k.ar, .int .i64 k.lv] 53)).heap) => show Calls Tryz.prog 109 #[.int .i64 3, .slice (some ⟨W.heap.size, 0, none⟩) 2 2] W' (fun e w' => ∃ a : Al.A, e = .returned (.agg a.enc.toArray) ∧ a.con = Al.alm 3 [m, k] ∧ a.Own w' ∧ Gr W' w') from by
    have z := alarm_any 3 (Al.SlM.two W.heap.size m k) W' (Al.SlM.two_at (by rw [he]; exact World.alloc_heap_new W _) hm hk) (show 0 < 2 by decide) (show 2 ≤ 1000000 by decide)
    rw [Al.SlM.two_lst] at z
    exact z)
  obtain ⟨i1, k0, k1, k2, k3⟩ := info_parts infoA
  have KI := Lib.hid k0; have KZ0 := Lib.hid k1; have KZ1 := Lib.hid k2; have KZ2 := Lib.hid k3
  clear k0 k1 k2 k3
  have HB := Lib.hid (bynode_any s w h hv)
  have hvl := ((Al.vB_iff s).1 hv).perm (Al.srtM_perm s.lst).symm
  have HV := Lib.hid hvl
  have HOk := Lib.hid (show ∀ m ∈ Al.srtM s.lst, m.Ok from fun m hm => by
    obtain ⟨i, hi, rfl⟩ := List.getElem_of_mem ((Al.srtM_perm s.lst).mem_iff.1 hm)
    rw [Al.lst_get]; exact (h.hD i (by rw [← Al.SlM.lst_len]; exact hi)).2)
  have HBd := Lib.hid (show ∀ m ∈ Al.srtM s.lst, -4194304 ≤ m.lv ∧ m.lv ≤ 4194304 from fun m hm => by
    have z := hvl.2.1 m hm
    unfold Al.mOk at z
    simp only [Bool.and_eq_true] at z
    have y := z.2.2.2.2.2
    unfold Ba.bet at y
    simp only [Bool.and_eq_true, decide_eq_true_eq] at y
    exact y)
  have HU := Lib.hid (fun (f : Value → Option Value) (ss : List ByteArray) hn hs hall hin => Al.come_up (l := s.lst) (f := f) (ss := ss) (fun t => Al.jmp most (Al.ofN s.lst t)) hn hs hall hin)
  have hLen : (Al.srtM s.lst).length ≤ 10000 := hvl.1
  clear h hv hvl
  change Calls _ _ _ _ (Al.RetO ((Al.nds s.lst).flatMap fun t => Al.jmp most (Al.ofN s.lst t)) w)
  have HOf := Lib.hid (show (fun t => Al.jmp most (Al.ofN s.lst t)) = fun t => Al.jmp most (Al.own (Al.srtM s.lst) t) from rfl)
  generalize ((Al.nds s.lst).flatMap fun t => Al.jmp most (Al.ofN s.lst t)) = RES at *
  rw [HOf.out] at HU
  clear HOf
  generalize Al.srtM s.lst = L at *
  generalize s.A = A0 at *; generalize s.n = n0 at *; generalize s.c = c0 at *
  go_enter Tryz.func71, Tryz.ntmps71
  go_wp2_with fail
  refine HB.out.mono ?_
  rintro e w1 ⟨MB, nE, f, rfl, hM, hR, hMB, hg1⟩
  clear HB
  have HR := Lib.hid hR
  have HM := Lib.hid hM
  have hMlt := hM.lt
  obtain ⟨w2, cnt, hrun, hg2, hz2, hit⟩ := ItF.start hM Tryz.underlying139
  have HIt := Lib.hid hit
  clear hM hR hit
  go_wp2_with fail
  clear hrun
  obtain ⟨R, hRR⟩ : ∃ R, R = w1.heap.size := ⟨_, rfl⟩
  rw [← hRR] at HIt ⊢
  have hMR : MB < R := by omega
  have hRz : R < w2.heap.size := by omega
  have hR1 : w1.heap.size ≤ R := by omega
  clear hRR hz2
  go_loopw [5] (fun v wr => ∃ (ss : List ByteArray) (d : List Al.A) (cnt : Nat), Hid (ItF wr MB R cnt f (ss.map Value.string)) ∧ Hid (Al.OwnA wr w2.heap.size v d) ∧ Hid (d.map Al.A.con = ss.flatMap fun t => Al.jmp most (Al.own L t)) ∧ Gr w1 wr ∧ w2.heap.size ≤ wr.heap.size) (fun _ wr => itLeft wr R MB)
  case atStart => exact ⟨[], [], cnt, HIt, Lib.hid (Al.OwnA.nil _ _), Lib.hid rfl, hg2, Nat.le_refl _⟩
  case round =>
    have HIt0 := HIt
    clear HIt0
    obtain ⟨ss, ds, cnt', HI, HO, HL, hg, hzw⟩ := hrel
    have hme := HI.out.left
    have hn1 := Gr.size hg
    rcases HI.out.step (P := Tryz.prog) (by omega) 0 with ⟨hall, hrun⟩ | ⟨key, v, w5, cnt5, hlt5, hfk, hnk, hrun, hit5, hen, hgx⟩
    · have hp := HU.out f ss (by have := HI.out.nodup.1; exact nodup_str this) (fun t => HR.out.isSome t) hall (fun t ht => HI.out.nodup.2 _ (List.mem_map.2 ⟨t, ht, rfl⟩))
      have hz1 := Gr.size hg1
      clear hall HU HR HI HAl HV HOk HBd HM
      go_wp2_with fail
      go_ret
      exact ⟨_, ds, rfl, HO.out.base (by omega), by rw [HL.out]; exact hp, hg1.trans hg⟩
    · obtain ⟨t, g, cap, rfl, hne, rfl, hnc, hcm, hcl⟩ := HR.out.at hfk
      have HOkT := Lib.hid (show ∀ m ∈ Al.own L t, m.Ok from fun m hm => HOk.out m (List.mem_filter.1 hm).1)
      have HBT := Lib.hid (show ∀ m ∈ Al.own L t, -4194304 ≤ m.lv ∧ m.lv ≤ 4194304 from fun m hm => HBd.out m (List.mem_filter.1 hm).1)
      have hTl : (Al.own L t).length ≤ 10000 := Nat.le_trans (List.filter_sublist (l := L) (p := fun m => Ba.eqS m.nd t)).length_le hLen
      have HFl := Lib.hid (Al.flat_len (L := L) (fun t => Al.jmp most (Al.own L t)) (fun t => Al.jmp_len most _) (ss ++ [t]) (by
        have := hit5.nodup.1
        rw [show ss.map Value.string ++ [Value.string t] = (ss ++ [t]).map Value.string by simp] at this
        exact nodup_str this))
      have g5 : Gr w1 w5 := GrX.gr hg (by omega) hgx
      have hz5 : w2.heap.size ≤ w5.heap.size := Nat.le_trans hzw hgx.size
      have HO5 := Lib.hid (HO.out.iter hgx HI.out.notcells)
      have HI5 := Lib.hid (show ItF w5 MB R cnt5 f ((ss ++ [t]).map Value.string) from by rw [List.map_append]; exact hit5)
      have HT0 := Lib.hid (show ds.map Al.A.con ++ Al.jmp most (Al.own L t) = (ss ++ [t]).flatMap fun t => Al.jmp most (Al.own L t) from by rw [HL.out]; simp)
      have hTp : 0 < (Al.own L t).length := List.length_pos_iff.2 hne
      clear hfk hnk hit5 hgx HI HO HL hne HU HR HM
      generalize hSS : (ss ++ [t]).flatMap (fun t => Al.jmp most (Al.own L t)) = RS at *
      obtain ⟨PR, hPR⟩ : ∃ z, ds.map Al.A.con = z := ⟨_, rfl⟩
      rw [hPR] at HT0
      have HPR := Lib.hid hPR
      clear hPR
      have HSS := Lib.hid hSS
      clear hSS
      have HTT := Lib.hid (show PR ++ Al.jmp most ((Al.own L t).drop 0) = RS from HT0.out)
      clear HT0
      obtain ⟨T, hT⟩ : ∃ T, Al.own L t = T := ⟨_, rfl⟩
      rw [hT] at hcl HOkT HBT hTl HTT hTp hnc hrun hen
      replace hcl := Lib.hid hcl
      clear hT
      obtain ⟨n, hn⟩ : ∃ n, T.length = n := ⟨_, rfl⟩
      rw [hn] at hTl hTp hnc hrun hen
      have HN := Lib.hid hn
      clear hn
      go_wp2_with fail
      go_loopw [5, 8] (fun v x wr => ∃ (j : Nat) (d : List Al.A), j + 1 ≤ n ∧ x = .int .i64 ((j + 1 : Nat) : Int) ∧ Hid (Al.OwnA wr w2.heap.size v d) ∧ Hid (d.map Al.A.con ++ Al.jmp most (T.drop j) = RS) ∧ Hid (ItF wr MB R cnt5 f ((ss ++ [t]).map Value.string)) ∧ Gr w1 wr ∧ w2.heap.size ≤ wr.heap.size) (fun _ x _ => n - (intOf x).toNat)
      case atStart => exact ⟨0, ds, hTp, rfl, HO5, Lib.hid (by rw [HPR.out]; exact HTT.out), HI5, g5, hz5⟩
      case round =>
        clear HO5 HI5 HTT
        obtain ⟨j, d, hj, rfl, HO, HT, HI, hg6, hz6⟩ := hrel
        by_cases hlt : j + 1 < n
        · have hgw := hg6
          obtain ⟨a0, a1, a2, a3, a4⟩ := (hcl.out j (by rw [HN.out]; omega)).gr hg6
          obtain ⟨b0, b1, b2, b3, b4⟩ := (hcl.out (j + 1) (by rw [HN.out]; omega)).gr hg6
          have hjm := Al.jmp_at (most := most) (l := T) (i := j) (by rw [HN.out]; exact hlt)
          have hmo1 := HOkT.out (T[j]'(by rw [HN.out]; omega)) (List.getElem_mem _); have hmo2 := HOkT.out (T[j + 1]'(by rw [HN.out]; omega)) (List.getElem_mem _)
          have hmb1 := HBT.out (T[j]'(by rw [HN.out]; omega)) (List.getElem_mem _); have hmb2 := HBT.out (T[j + 1]'(by rw [HN.out]; omega)) (List.getElem_mem _)
          generalize T[j]'(by rw [HN.out]; omega) = m at *
          generalize T[j + 1]'(by rw [HN.out]; omega) = k at *
          have HJM := Lib.hid hjm
          clear hjm
          have HALL := Lib.hid (fun (W W' : World) he => HAl.out W W' m k hmo1 hmo2 he)
          have hdl : d.length ≤ 20000 := by
            have z := congrArg List.length HT.out
            rw [List.length_append, List.length_map] at z
            have y := HFl.out
            omega
          clear hcl HOkT HBT hmo1 hmo2 HAl HFl HSS HPR
          rw [Nat.zero_add] at a0 a1 a2 a3 a4 b0 b1 b2 b3 b4
          obtain ⟨i, hi⟩ : ∃ i, i = j + 1 := ⟨_, rfl⟩
          rw [← hi] at hlt hj HJM b0 b1 b2 b3 b4 ⊢
          have ib0 : (0 : Int) ≤ (i : Int) := by omega
          have ib1 : (i : Int) < (n : Int) := by omega
          have ib2 : (i : Int) - 1 = (j : Int) := by omega
          have ib3 : (0 : Int) ≤ (j : Int) := by omega
          have ib4 : (j : Int) < (n : Int) := by omega
          replace hi := Lib.hid hi
          obtain ⟨x, hx⟩ : ∃ x, m.lv = x := ⟨_, rfl⟩; obtain ⟨y, hy⟩ : ∃ y, k.lv = y := ⟨_, rfl⟩
          rw [hx] at a4 hmb1 HJM; rw [hy] at b4 hmb2 HJM
          by_cases q : most < max (y - x) (-(y - x))
          · rw [if_pos q] at HJM
            go_wp2_with fail
            go_quiet (fail)
            go_wp2_with fail
            refine name_world ?_
            intro WK hWK
            have gK : Gr wr WK := by rw [hWK]; exact gr_auto
            clear hWK q
            replace a0 := Gr.at gK a0; replace a1 := Gr.at gK a1; replace a2 := Gr.at gK a2; replace a3 := Gr.at gK a3; replace a4 := Gr.at gK a4
            replace b0 := Gr.at gK b0; replace b1 := Gr.at gK b1; replace b2 := Gr.at gK b2; replace b3 := Gr.at gK b3; replace b4 := Gr.at gK b4
            rw [hx] at HALL; rw [hy] at HALL
            have HG := Lib.hid (hg6.trans gK)
            have HOK := Lib.hid (HO.out.gr gK)
            have HIK := Lib.hid (HI.out.gr gK)
            have hz1 := Gr.size (hg6.trans gK)
            have hz2 : w2.heap.size ≤ WK.heap.size := Nat.le_trans hz6 (Gr.size gK)
            have wj : IntKind.i64.wrap (j : Int) = (j : Int) := IntWalk.i64_in _ (by omega)
            clear HO HI hg6 gK hgw
            have HFB := Lib.hid (own_far HOK.out.row (show MB < w2.heap.size by omega)); have HFR := Lib.hid (own_far HOK.out.row (show R < w2.heap.size by omega))
            go_region_law (first
              | (go_simp; go_at_call 109; refine (HALL.out WK _ (by rfl)).mono ?_; rintro e w7 ⟨a, rfl, hcon, hown, hb7⟩; have g7 : Gr WK w7 := Gr.trans (show Gr WK _ from by exact gr_auto) hb7; have hz7 := Gr.size g7; unfold Al.A.enc; obtain ⟨akd, hakd⟩ : ∃ z, a.kd = z := ⟨_, rfl⟩; obtain ⟨and_, hand⟩ : ∃ z, a.nd = z := ⟨_, rfl⟩; obtain ⟨atm, hatm⟩ : ∃ z, a.tm = z := ⟨_, rfl⟩; obtain ⟨asl, hasl⟩ : ∃ z, Value.slice a.p a.n a.c = z := ⟨_, rfl⟩; have HE := Lib.hid (show a.enc = [.int .i64 akd, .string and_, .int .i64 atm, asl] from by unfold Al.A.enc; rw [hakd, hand, hatm, hasl]); rw [hakd, hand, hatm, hasl]; have HSL := Lib.hid (show asl.oneCell' = true from by rw [← hasl]; rfl); clear hakd hand hatm hasl; have HC7 := Lib.hid hcon; have HA7 := Lib.hid hown; clear hcon hown hb7)
              | (refine step_append_lies _ (by rfl) _ _ 48 (by rfl) w2.heap.size 31 i1 (.agg #[.int .i64 0, .string ⟨#[]⟩, .int .i64 0, .slice none 0 0]) 4 56 Tryz.underlying48 KI.out KZ0.out KZ1.out KZ2.out rfl (by decide) _ _ _ (by rfl) (ownsRow_gr HOK.out.row (by exact Gr.trans g7 gr_auto)) ⟨w7.heap.size, 0, none⟩ 1 1 [.int .i64 akd, .string and_, .int .i64 atm, asl] (by rfl) rfl (cells_new w7 #[.int .i64 akd, .string and_, .int .i64 atm, asl] 31) (by intro u hu; simp at hu; rcases hu with rfl | rfl | rfl | rfl <;> first | rfl | exact HSL.out) (by decide) (by unfold maxLen; omega) (by omega) (by first | (simp; omega) | omega) _ rfl ?_; intro g9 cp9 w9 hown9 hgrow9 hat9 hlt9))
            all_goals (
              have hg9 : (w7.alloc (Obj.cells #[.int .i64 akd, .string and_, .int .i64 atm, asl] 31)).grownBy w9 _ := hgrow9
              have HP := Lib.hid (Al.OwnA.push ((HOK.out.gr g7).gr (Gr.alloc (Gr.refl w7) _)) (HA7.out.gr (Gr.alloc (Gr.refl w7) _)) (by rw [HE.out]; exact hown9) hg9)
              have HI9 := Lib.hid (((HIK.out.gr g7).gr (Gr.alloc (Gr.refl w7) (Obj.cells #[.int .i64 akd, .string and_, .int .i64 atm, asl] 31))).grownBy hg9 HFB.out HFR.out)
              have gw9 : Gr w1 w9 := Gr.own ((HG.out.trans g7).alloc _) (show w1.heap.size ≤ w2.heap.size by omega) (ownsRow_gr HOK.out.row (g7.alloc _)) hg9
              have hz9 : w2.heap.size ≤ w9.heap.size := by have := hg9.size; simp at this; omega
              have HT9 := Lib.hid (show (d ++ [a]).map Al.A.con ++ Al.jmp most (T.drop i) = RS from by
                rw [← HT.out, HJM.out, List.map_append, List.map_cons, List.map_nil, HC7.out, List.append_assoc])
              rw [hi.out] at HT9
              clear HOK HA7 HC7 HE HSL hown9 hgrow9 hat9 hlt9 hg9 HG HIK HFB HFR HT HJM HALL
              go_wp2_with fail
              go_roundw
              case rel => exact ⟨j + 1, _, by have := hi.out; omega, by have := hi.out; subst this; go_num, HP, HT9, HI9, gw9, hz9⟩
              case measure => have := hi.out; simp [intOf]; omega)
          · rw [if_neg q, List.nil_append] at HJM
            have q' : max (y - x) (-(y - x)) ≤ most := by omega
            go_wp2_with fail
            go_quiet (fail)
            have HT9 := Lib.hid (show d.map Al.A.con ++ Al.jmp most (T.drop i) = RS from by rw [← HT.out, HJM.out])
            rw [hi.out] at HT9
            have HP := Lib.hid (fun k => HO.out.gr (Gr.drewN (Gr.refl wr) k))
            have HI9 := Lib.hid (fun k => HI.out.gr (Gr.drewN (Gr.refl wr) k))
            have gw9 := Lib.hid (fun k => hg6.drewN k)
            have hz9 := Lib.hid (fun k => show w2.heap.size ≤ (wr.drewN k).heap.size from hz6)
            clear HO HI HT HJM HALL q
            go_wp2_with fail
            go_roundw
            case rel => exact ⟨j + 1, _, by have := hi.out; omega, by have := hi.out; subst this; go_num, Lib.hid (HP.out _), HT9, Lib.hid (HI9.out _), gw9.out _, hz9.out _⟩
            case measure => have := hi.out; simp [intOf]; omega
        · obtain rfl : n = j + 1 := by omega
          have HTe := Lib.hid (show d.map Al.A.con = RS from by rw [← HT.out, Al.jmp_end (by rw [HN.out]; exact Nat.le_refl _), List.append_nil])
          have hme2 := HI.out.left
          clear hcl HOkT HBT HAl HFl HPR HT
          have HL9 := Lib.hid (show d.map Al.A.con = (ss ++ [t]).flatMap fun t => Al.jmp most (Al.own L t) from by rw [HTe.out, HSS.out])
          clear HTe HSS
          go_wp2_with fail
          go_roundw
          case rel => exact ⟨ss ++ [t], d, cnt5, HI, HO, HL9, hg6, hz6⟩
          case measure => rw [hme2, hme]; exact hlt5
end Go.Proofs.YtllkiadedaghoaaGreatDoor
