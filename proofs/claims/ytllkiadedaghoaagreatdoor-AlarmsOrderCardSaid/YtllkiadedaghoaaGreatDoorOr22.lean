/-
  Alarms: telemetry.right, and the reference's Right. (Printed by mkaf.py.)
  Alarms: maps whose keys are a message's node and number. Typed. (After mesh/XMsK.)
  Maps that a call makes: what a map's block answers at each key, whatever its elements are.
-/
import Derived.Test.YtllkiadedaghoaaGreatDoorOr12
import Derived.Test.YtllkiadedaghoaaGreatDoorOr21
import Derived.Test.YtllkiadedaghoaaGreatDoorOr20
import Derived.Test.YtllkiadedaghoaaGreatDoorOr01
import Derived.DeepKeys4
import Derived.WalkArith
import Derived.WideKeyArgs
import Derived.Maps.Own
import Derived.Maps.OwnOps
set_option linter.unusedVariables false
set_option linter.unusedSimpArgs false
namespace Go.Proofs.YtllkiadedaghoaaGreatDoor
open Go.RowKit
attribute [local go_sem ↓] Go.wp_at_zero Go.wp_at_succ
namespace Al
/-- What a message must be. -/
def mOk (m : M) : Bool := Dc.isName m.nd.data.toList && (Ba.bet m.nu 0 1073741824 && (Ba.bet m.tm (-68719476736) 68719476736 && (Ba.bet m.ar (-68719476736) 68719476736 && (decide (m.tm ≤ m.ar) && Ba.bet m.lv (-4194304) 4194304))))
end Al
set_option maxRecDepth 100000 in
set_option maxHeartbeats 4000000 in
theorem twithin_any (x l h : Int) (w : World) : Calls Tryz.prog 139 #[.int .i64 x, .int .i64 l, .int .i64 h] w fun e w' => e = .returned (.bool (Ba.bet x l h)) ∧ w = w' := by
  unfold Ba.bet
  cases t0 : decide (l ≤ x)
  · go_enter Tryz.func139, Tryz.ntmps139
    go_wp2_with fail
    go_ret
    exact ⟨rfl, rfl⟩
  · cases t1 : decide (x ≤ h)
    · go_enter Tryz.func139, Tryz.ntmps139
      go_wp2_with fail
      go_ret
      exact ⟨rfl, rfl⟩
    · go_enter Tryz.func139, Tryz.ntmps139
      go_wp2_with fail
      go_ret
      exact ⟨rfl, rfl⟩
set_option maxRecDepth 100000 in
set_option maxHeartbeats 4000000 in
theorem tinst_any (x : Int) (w : World) : Calls Tryz.prog 140 #[.int .i64 x] w fun e w' => e = .returned (.bool (Ba.bet x (-68719476736) 68719476736)) ∧ w = w' := by
  have HC := Lib.hid (fun W => twithin_any x (-68719476736) 68719476736 W)
  generalize Ba.bet x (-68719476736) 68719476736 = b at *
  go_enter Tryz.func140, Tryz.ntmps140
  go_wp2_with fail
  refine (HC.out _).mono ?_
  rintro e w1 ⟨rfl, rfl⟩
  go_wp2_with fail
  go_ret
  exact ⟨rfl, rfl⟩
set_option maxRecDepth 100000 in
set_option maxHeartbeats 4000000 in
theorem right_any (m : Al.M) (w : World) (h : m.Ok) : Calls Tryz.prog 98 #[.agg m.enc.toArray] w fun e w' => e = .returned (.bool (Al.mOk m)) ∧ Gr w w' := by
  unfold Al.mOk Al.M.enc
  cases m with | mk nd nu tm ar lv =>
  have HN := Lib.hid (fun W => isname_all nd W h.nd)
  have H1 := Lib.hid (fun W => twithin_any nu 0 1073741824 W)
  have H2 := Lib.hid (fun W => tinst_any tm W)
  have H3 := Lib.hid (fun W => tinst_any ar W)
  have H5 := Lib.hid (fun W => twithin_any lv (-4194304) 4194304 W)
  clear h
  simp only [] at *
  generalize Dc.isName nd.data.toList = b0 at *
  generalize Ba.bet nu 0 1073741824 = b1 at *
  generalize Ba.bet tm (-68719476736) 68719476736 = b2 at *
  generalize Ba.bet ar (-68719476736) 68719476736 = b3 at *
  generalize Ba.bet lv (-4194304) 4194304 = b5 at *
  cases b0
  · go_enter Tryz.func98, Tryz.ntmps98
    go_wp2_with fail
    refine (HN.out _).mono ?_
    rintro e w0 ⟨rfl, rfl⟩
    go_wp2_with fail
    go_ret
    exact ⟨rfl, gr_auto⟩
  · skip
    cases b1
    · go_enter Tryz.func98, Tryz.ntmps98
      go_wp2_with fail
      refine (HN.out _).mono ?_
      rintro e w0 ⟨rfl, rfl⟩
      go_wp2_with fail
      refine (H1.out _).mono ?_
      rintro e w1 ⟨rfl, rfl⟩
      go_wp2_with fail
      go_ret
      exact ⟨rfl, gr_auto⟩
    · skip
      cases b2
      · go_enter Tryz.func98, Tryz.ntmps98
        go_wp2_with fail
        refine (HN.out _).mono ?_
        rintro e w0 ⟨rfl, rfl⟩
        go_wp2_with fail
        refine (H1.out _).mono ?_
        rintro e w1 ⟨rfl, rfl⟩
        go_wp2_with fail
        refine (H2.out _).mono ?_
        rintro e w2 ⟨rfl, rfl⟩
        go_wp2_with fail
        go_ret
        exact ⟨rfl, gr_auto⟩
      · skip
        cases b3
        · go_enter Tryz.func98, Tryz.ntmps98
          go_wp2_with fail
          refine (HN.out _).mono ?_
          rintro e w0 ⟨rfl, rfl⟩
          go_wp2_with fail
          refine (H1.out _).mono ?_
          rintro e w1 ⟨rfl, rfl⟩
          go_wp2_with fail
          refine (H2.out _).mono ?_
          rintro e w2 ⟨rfl, rfl⟩
          go_wp2_with fail
          refine (H3.out _).mono ?_
          rintro e w3 ⟨rfl, rfl⟩
          go_wp2_with fail
          go_ret
          exact ⟨rfl, gr_auto⟩
        · skip
          cases t4 : decide (tm ≤ ar)
          · go_enter Tryz.func98, Tryz.ntmps98
            go_wp2_with fail
            refine (HN.out _).mono ?_
            rintro e w0 ⟨rfl, rfl⟩
            go_wp2_with fail
            refine (H1.out _).mono ?_
            rintro e w1 ⟨rfl, rfl⟩
            go_wp2_with fail
            refine (H2.out _).mono ?_
            rintro e w2 ⟨rfl, rfl⟩
            go_wp2_with fail
            refine (H3.out _).mono ?_
            rintro e w3 ⟨rfl, rfl⟩
            go_wp2_with fail
            go_ret
            exact ⟨rfl, gr_auto⟩
          · skip
            cases b5
            · go_enter Tryz.func98, Tryz.ntmps98
              go_wp2_with fail
              refine (HN.out _).mono ?_
              rintro e w0 ⟨rfl, rfl⟩
              go_wp2_with fail
              refine (H1.out _).mono ?_
              rintro e w1 ⟨rfl, rfl⟩
              go_wp2_with fail
              refine (H2.out _).mono ?_
              rintro e w2 ⟨rfl, rfl⟩
              go_wp2_with fail
              refine (H3.out _).mono ?_
              rintro e w3 ⟨rfl, rfl⟩
              go_wp2_with fail
              refine (H5.out _).mono ?_
              rintro e w5 ⟨rfl, rfl⟩
              go_wp2_with fail
              go_ret
              exact ⟨rfl, gr_auto⟩
            · go_enter Tryz.func98, Tryz.ntmps98
              go_wp2_with fail
              refine (HN.out _).mono ?_
              rintro e w0 ⟨rfl, rfl⟩
              go_wp2_with fail
              refine (H1.out _).mono ?_
              rintro e w1 ⟨rfl, rfl⟩
              go_wp2_with fail
              refine (H2.out _).mono ?_
              rintro e w2 ⟨rfl, rfl⟩
              go_wp2_with fail
              refine (H3.out _).mono ?_
              rintro e w3 ⟨rfl, rfl⟩
              go_wp2_with fail
              refine (H5.out _).mono ?_
              rintro e w5 ⟨rfl, rfl⟩
              go_wp2_with fail
              go_ret
              exact ⟨rfl, gr_auto⟩
end Go.Proofs.YtllkiadedaghoaaGreatDoor
set_option linter.unusedVariables false
set_option linter.unusedSimpArgs false
namespace Go.Proofs.YtllkiadedaghoaaGreatDoor
open Go.RowKit Go.Maps Go.WideMaps
namespace Al
/-- The key of a message. -/
def kM (s : ByteArray) (b : Int) : Value := .agg #[.string s, .int .i64 b]
theorem kM_inj {a c : ByteArray} {b d : Int} (h : kM a b = kM c d) : a = c ∧ b = d := by
  unfold kM at h
  simpa using h
end Al
theorem al_laid : laidOutB Tryz.prog = true := by as_aux_lemma => kernel_rfl
theorem al_types : ∃ m, Tryz.prog.types.size = m + 1 := ⟨Tryz.prog.types.size - 1, by have : 0 < Tryz.prog.types.size := of_decide_eq_true (by kernel_rfl); omega⟩
theorem keyed_msg : Keyed Tryz.prog 126 := Keyed.of_law (deep_law_laid al_laid (m := 2) (by omega) (of_decide_eq_true (by kernel_rfl)) (by kernel_rfl) (by rw [Tryz.underlying126]))
theorem key_msg {a : ByteArray} {b : Int} (hs : a.size ≤ 9223372036854775807) (hb : Ba.i64 b) : ∃ l, keyOf Tryz.prog 126 (Al.kM a b) = some l := by
  obtain ⟨m, hm⟩ := al_types
  unfold Ba.i64 at hb
  have w2 : (Lit.int .i64 b).wf = true := WalkArith.wf_i64 (by omega)
  have c1 : Tryz.prog.cellsOf 126 = 2 := by as_aux_lemma => kernel_rfl
  have c2 : Tryz.prog.cellsOf 3 = 1 := by as_aux_lemma => kernel_rfl
  have c3 : Tryz.prog.cellsOf 9 = 1 := by as_aux_lemma => kernel_rfl
  have kt : Tryz.prog.keyType 126 = true := by as_aux_lemma => kernel_rfl
  have e1 : ∃ L, Tryz.prog.keyLits (m + 1) 9 [.string a] = some L := by unfold Program.keyLits; rw [Tryz.underlying9]; exact ⟨_, if_pos (by unfold maxLen; exact hs)⟩
  obtain ⟨L, e1⟩ := e1
  have e2 : Tryz.prog.keyLits (m + 1) 3 [.int .i64 b] = some [.int .i64 b] := by unfold Program.keyLits; rw [Tryz.underlying3]; simp only [w2, and_self, if_true]
  obtain ⟨f1, f2, hu, ha, hf1, hf2, ho1, ho2⟩ : ∃ f1 f2 : Field, Tryz.prog.underlying 126 = some (.struct #[f1, f2]) ∧ (#[f1, f2] : Array Field).all (fun x => x.name != "_") = true ∧ f1.type = 9 ∧ f2.type = 3 ∧ f1.offset = 0 ∧ f2.offset = 1 :=
    ⟨_, _, Tryz.underlying126, by as_aux_lemma => kernel_rfl, rfl, rfl, rfl, rfl⟩
  have e3 : ∃ L2, Tryz.prog.keyLits (m + 1 + 1) 126 [.string a, .int .i64 b] = some L2 := by
    unfold Program.keyLits
    rw [hu]
    simp only
    rw [if_pos ⟨by rw [c1]; rfl, ha⟩]
    simp [List.mapM_cons, hf1, hf2, ho1, ho2, c2, c3, e1, e2]
  obtain ⟨L2, e3⟩ := e3
  have hfo : (Value.agg #[.string a, .int .i64 b]).formed Tryz.prog 126 = true := by
    simp [Value.formed, hu, c1]
  unfold keyOf Al.kM
  rw [hu]
  simp only
  rw [kt, hfo, hm]
  simp only [Bool.and_self, if_true]
  rw [show (Value.agg #[.string a, .int .i64 b]).cells.toList = [.string a, .int .i64 b] from rfl, e3]
  exact ⟨_, rfl⟩
set_option maxRecDepth 100000 in
theorem keyof_any (m : Al.M) (w : World) : Calls Tryz.prog 99 #[.agg m.enc.toArray] w fun e w' => e = .returned (Al.kM m.nd m.nu) ∧ Gr w w' := by
  unfold Al.kM Al.M.enc
  cases m with | mk nd nu tm ar lv =>
  go_enter Tryz.func99, Tryz.ntmps99
  go_wp2_with fail
  refine bodyPost_ret (by simp [results, Tryz.results99, go_sem]; try rfl) rfl ?_
  exact ⟨rfl, gr_auto⟩
end Go.Proofs.YtllkiadedaghoaaGreatDoor
set_option linter.unusedVariables false
set_option linter.unusedSimpArgs false
namespace Go.Proofs.YtllkiadedaghoaaGreatDoor
open Go.RowKit Go.Maps Go.ChangeShapes Go.WideShapes Go.MapKept
open Go.ChangeMaps (setBlock heap_setBlock_same heap_setBlock_other modify_eq_set)
/-- Block b is a map of at most n entries that answers f at keys of type k. -/
def MapIs (P : Program) (k : TypeId) (w : World) (b n : Nat) (f : Value → Option Value) : Prop :=
  ∃ es clock, w.heap[b]? = some (.map es clock) ∧ es.size ≤ n ∧ Stamped es clock ∧ (∀ x ∈ es.toList, ∃ l, keyOf P k x.key = some l) ∧
    (∀ key v, f key = some v → ∃ x ∈ es.toList, x.key = key ∧ x.val = v) ∧ (∀ key, f key = none → ∀ x ∈ es.toList, x.key ≠ key)
theorem MapIs.lt {P : Program} {k : TypeId} {w : World} {b n : Nat} {f : Value → Option Value} (h : MapIs P k w b n f) : b < w.heap.size := by
  obtain ⟨es, clock, hb, _⟩ := h
  exact (Array.getElem?_eq_some_iff.1 hb).1
theorem MapIs.made (P : Program) (k : TypeId) (w : World) : MapIs P k (w.alloc (.map #[] 0)) w.heap.size 0 (fun _ => none) :=
  ⟨#[], 0, (MapKept.heap_alloc w _).1, Nat.le_refl _, stamped_empty 0, by simp, by simp, by simp⟩
theorem MapIs.gr {P : Program} {k : TypeId} {w w' : World} {b n : Nat} {f : Value → Option Value} (h : MapIs P k w b n f) (g : Gr w w') : MapIs P k w' b n f := by
  have hlt := h.lt
  obtain ⟨es, clock, hb, r⟩ := h
  exact ⟨es, clock, (Below.block g b hlt).trans hb, r⟩
theorem MapIs.grownBy {P : Program} {k : TypeId} {w w' : World} {b n : Nat} {row : Option Nat} {f : Value → Option Value} (h : MapIs P k w b n f) (g : w.grownBy w' row) (hR : some b ≠ row) : MapIs P k w' b n f := by
  have hlt := h.lt
  obtain ⟨es, clock, hb, r⟩ := h
  exact ⟨es, clock, (g.block b hlt hR).trans hb, r⟩
theorem MapIs.mono {P : Program} {k : TypeId} {w : World} {b n m : Nat} {f : Value → Option Value} (h : MapIs P k w b n f) (hm : n ≤ m) : MapIs P k w b m f := by
  obtain ⟨es, clock, hb, hs, r⟩ := h
  exact ⟨es, clock, hb, Nat.le_trans hs hm, r⟩
theorem MapIs.as {P : Program} {k : TypeId} {w : World} {b n : Nat} {f g : Value → Option Value} (h : MapIs P k w b n f) (e : ∀ key l, keyOf P k key = some l → f key = g key) (hg : ∀ key, keyOf P k key = none → g key = none) : MapIs P k w b n g := by
  obtain ⟨es, clock, hb, hs, ht, hk, h1, h2⟩ := h
  refine ⟨es, clock, hb, hs, ht, hk, fun key v hv => ?_, fun key hv x hx hxk => ?_⟩
  · cases hl : keyOf P k key with
    | none => rw [hg key hl] at hv; cases hv
    | some l => exact h1 key v ((e key l hl).trans hv)
  · obtain ⟨l, hl⟩ := hk x hx
    rw [hxk] at hl
    exact h2 key ((e key l hl).trans hv) x hx hxk
section
variable {P : Program} {w : World} {t k e : TypeId} {b n : Nat} {f : Value → Option Value}
/-- A look-up. -/
theorem MapIs.look (c : Bool) (h : MapIs P k w b n f) (K : Keyed P k) (ht : P.underlying t = some (.map k e)) {z : Value} (hz : (zeroValue e).run P w = .ok z w) {key : Value} {kl : Lit} (hkey : keyOf P k key = some kl) :
    (Instr.lookup t (.map (some b)) key c).run P w = .ok (if c then .tuple #[(f key).getD z, .bool (f key).isSome] else (f key).getD z) w := by
  obtain ⟨es, clock, hb, hs, hst, hk, h1, h2⟩ := h
  rcases K.find w hkey es.toList hk with ⟨r1, r2⟩ | ⟨j, e0, r1, r2, r3⟩
  · have hf : f key = none := by
      cases hf : f key with
      | none => rfl
      | some v =>
        obtain ⟨x, hx, hxk, -⟩ := h1 key v hf
        exact absurd hxk (r2 x hx)
    rw [hf]
    simp [Instr.lookup, run_underlying ht, MapKept.run_getObj_map hb, K.check w _ hkey, r1, hz, Result.andThen]
  · have hm0 : e0 ∈ es.toList := List.mem_of_getElem? r2
    have hf : f key = some e0.val := by
      cases hf : f key with
      | none => exact absurd r3 (h2 key hf e0 hm0)
      | some v =>
        obtain ⟨x, hx, hxk, hxv⟩ := h1 key v hf
        have hp := ((stamped_iff es clock).1 hst).2.2
        have : x = e0 := by
          obtain ⟨i, hi, hxi⟩ := List.getElem_of_mem hx
          obtain ⟨hj, hej⟩ := List.getElem?_eq_some_iff.1 r2
          rcases Nat.lt_trichotomy i j with q | q | q
          · have := List.pairwise_iff_getElem.1 hp i j hi hj q
            rw [hxi, hej] at this
            exact absurd (hxk.trans r3.symm) this
          · subst q; rw [← hxi, ← hej]
          · have := List.pairwise_iff_getElem.1 hp j i hj hi q
            rw [hxi, hej] at this
            exact absurd (r3.trans hxk.symm) this
        rw [← hxv, this]
    rw [hf]
    simp [Instr.lookup, run_underlying ht, MapKept.run_getObj_map hb, K.check w _ hkey, r1, Result.andThen]
/-- A store. -/
theorem MapIs.store (h : MapIs P k w b n f) (K : Keyed P k) (ht : P.underlying t = some (.map k e)) {key val : Value} {kl : Lit} (hkey : keyOf P k key = some kl) :
    ∃ w', (Instr.mapUpdate t (.map (some b)) key val).run P w = .ok () w' ∧ (∀ g : Value → Option Value, g key = some val → (∀ x, x ≠ key → g x = f x) → MapIs P k w' b (n + 1) g) ∧ w.grownBy w' (some b) ∧ GrX b w w' := by
  obtain ⟨es, clock, hb, hs, hst, hk, h1, h2⟩ := h
  have hgx : ∀ es' clock', GrX b w (setBlock w b (.map es' clock')) := fun es' clock' =>
    ⟨rfl, rfl, rfl, by simp [setBlock], fun i _ hi => heap_setBlock_other hb _ hi, fun o ho => by simp [World.cell?, hb] at ho, fun o ho => by simp [World.cell?, hb] at ho⟩
  have hgb : ∀ es' clock', w.grownBy (setBlock w b (.map es' clock')) (some b) := fun es' clock' =>
    ⟨rfl, rfl, rfl, by simp [setBlock], fun i _ hi => heap_setBlock_other hb _ (fun e => hi (by rw [e]))⟩
  rcases K.find w hkey es.toList hk with ⟨r1, r2⟩ | ⟨j, e0, r1, r2, r3⟩
  · refine ⟨setBlock w b (.map (es.push ⟨key, val, clock⟩) (clock + 1)), ?_, fun g hg hg' => ?_, hgb _ _, hgx _ _⟩
    · simp [Instr.mapUpdate, run_underlying ht, MapKept.run_getObj_map hb, K.check w false hkey, r1, MapKept.run_setObj_map _ hb, Result.andThen, setBlock]
    · refine ⟨_, _, heap_setBlock_same hb _, by simp; omega, stamped_push hst r2, ?_, ?_, ?_⟩
      · intro x hx
        simp only [Array.toList_push, List.mem_append, List.mem_singleton] at hx
        rcases hx with hx | rfl
        · exact hk x hx
        · exact ⟨kl, hkey⟩
      · intro key' v hv
        simp only [Array.toList_push, List.mem_append, List.mem_singleton]
        by_cases q : key' = key
        · subst q
          rw [hg] at hv
          cases hv
          exact ⟨_, Or.inr rfl, rfl, rfl⟩
        · rw [hg' key' q] at hv
          obtain ⟨x, hx, hxx⟩ := h1 key' v hv
          exact ⟨x, Or.inl hx, hxx⟩
      · intro key' hv x hx
        simp only [Array.toList_push, List.mem_append, List.mem_singleton] at hx
        have q : key' ≠ key := fun q => by rw [q, hg] at hv; cases hv
        rw [hg' key' q] at hv
        rcases hx with hx | rfl
        · exact h2 key' hv x hx
        · exact Ne.symm q
  · have hj : es[j]? = some e0 := by simpa using r2
    have hjl : j < es.toList.length := (List.getElem?_eq_some_iff.1 r2).1
    have hkeyf : ∀ e', es[j]? = some e' → ({ e' with key := key, val := val } : MapEntry).key = e'.key := fun e' he' => by rw [hj] at he'; cases he'; exact r3.symm
    have hlist : (es.modify j (fun e' => { e' with key := key, val := val })).toList = es.toList.set j { e0 with key := key, val := val } := by rw [Array.toList_modify, modify_eq_set _ _ _ _ r2]
    have hp := ((stamped_iff es clock).1 hst).2.2
    have other : ∀ (i : Nat) (hi : i < es.toList.length), i ≠ j → (es.toList[i]).key ≠ key := by
      intro i hi hij hkk
      obtain ⟨hj', hej⟩ := List.getElem?_eq_some_iff.1 r2
      rcases Nat.lt_or_gt_of_ne hij with q | q
      · have := List.pairwise_iff_getElem.1 hp i j hi hj' q
        rw [hej] at this
        exact this (hkk.trans r3.symm)
      · have := List.pairwise_iff_getElem.1 hp j i hj' hi q
        rw [hej] at this
        exact this (r3.trans hkk.symm)
    have who : ∀ x ∈ es.toList.set j { e0 with key := key, val := val }, x = { e0 with key := key, val := val } ∨ (x ∈ es.toList ∧ x.key ≠ key) := by
      intro x hx
      obtain ⟨i, hi, ex⟩ := List.getElem_of_mem hx
      rw [List.getElem_set] at ex
      split at ex
      · exact Or.inl ex.symm
      · rename_i hne
        have hi' : i < es.toList.length := by simpa using hi
        exact Or.inr ⟨ex ▸ List.getElem_mem hi', by rw [← ex]; exact other i hi' (Ne.symm hne)⟩
    refine ⟨setBlock w b (.map (es.modify j (fun e' => { e' with key := key, val := val })) clock), ?_, fun g hg hg' => ?_, hgb _ _, hgx _ _⟩
    · simp [Instr.mapUpdate, run_underlying ht, MapKept.run_getObj_map hb, K.check w false hkey, r1, hj, r3, K.stays w hkey, MapKept.run_setObj_map _ hb, Result.andThen, setBlock]
    · refine ⟨_, _, heap_setBlock_same hb _, by simp; omega, stamped_modify hst _ _ (fun _ _ => rfl) (fun e' _ he' => hkeyf e' he'), ?_, ?_, ?_⟩
      · intro x hx
        rw [hlist] at hx
        rcases who x hx with rfl | ⟨hx', -⟩
        · exact ⟨kl, hkey⟩
        · exact hk x hx'
      · intro key' v hv
        rw [hlist]
        by_cases q : key' = key
        · subst q
          rw [hg] at hv
          cases hv
          exact ⟨_, List.mem_iff_getElem.2 ⟨j, by simpa using hjl, by simp; rfl⟩, rfl, rfl⟩
        · rw [hg' key' q] at hv
          obtain ⟨x, hx, hxk, hxv⟩ := h1 key' v hv
          obtain ⟨i, hi, hxi⟩ := List.getElem_of_mem hx
          have hij : i ≠ j := fun q2 => by
            subst q2
            obtain ⟨_, hej⟩ := List.getElem?_eq_some_iff.1 r2
            rw [hej] at hxi
            subst hxi
            exact q (hxk.symm.trans r3)
          refine ⟨x, List.mem_iff_getElem.2 ⟨i, by simpa using hi, ?_⟩, hxk, hxv⟩
          rw [List.getElem_set_ne (Ne.symm hij)]; exact hxi
      · intro key' hv x hx
        rw [hlist] at hx
        have q : key' ≠ key := fun q => by rw [q, hg] at hv; cases hv
        rcases who x hx with rfl | ⟨hx', hxk⟩
        · exact Ne.symm q
        · rw [hg' key' q] at hv
          exact h2 key' hv x hx'
end
end Go.Proofs.YtllkiadedaghoaaGreatDoor
