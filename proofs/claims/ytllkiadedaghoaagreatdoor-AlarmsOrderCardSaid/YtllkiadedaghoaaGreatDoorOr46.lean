/-
  Seat .ZD: both Explains answer alike; how many spaces an explanation has. Typed.
  Alarms, plain: alarms do not depend on the order of the messages; each is there once; what explains them. Typed.
-/
import Derived.Test.YtllkiadedaghoaaGreatDoorOr15
import Derived.Test.YtllkiadedaghoaaGreatDoorOr43
import Derived.Test.YtllkiadedaghoaaGreatDoorOr45
import Derived.Test.YtllkiadedaghoaaGreatDoorOr37
import Derived.Test.YtllkiadedaghoaaGreatDoorOr42

set_option linter.unusedVariables false
set_option linter.unusedSimpArgs false
namespace Go.Proofs.YtllkiadedaghoaaGreatDoor
open Go.RowKit Go.Shelf Go.Sort
namespace Dg
theorem pd_sp : ∀ (k n : Nat), (pd n k).count 32 = 0
  | 0, n => rfl
  | k + 1, n => by
    rw [pd, List.count_append, pd_sp k]
    rw [List.count_singleton]
    have h := dig_byte n
    have hne : ¬ (UInt8.ofNat (48 + n % 10) == 32) = true := fun e => by
      rw [beq_iff_eq.1 e] at h
      have : (32 : UInt8).toNat = 32 := rfl
      omega
    rw [if_neg hne]
theorem dec_sp (n : Nat) : (Lib.decDigits n).count 32 = 0 := by rw [dec_pd]; exact pd_sp _ _
end Dg
namespace Ck
theorem dig_sp (n c : Nat) : (dig n c).count 32 = 0 := by
  unfold dig
  rw [List.count_append, Dg.dec_sp, List.count_replicate]
  rfl
theorem hrs_sp (s : Int) : (hrs s).count 32 = 0 := by
  unfold hrs
  simp only [List.count_append, dig_sp]
  rfl
theorem txt_sp (y m d s : Int) : (txt y m d s).count 32 = 1 := by
  unfold txt
  simp only [List.count_append, dig_sp, hrs_sp]
  rfl
end Ck
/-- Both texts of a time alike, and what they look like. -/
theorem text_full (t : Int) (w : World) (ht : Tab w) : ∃ (L : List UInt8) (e' : Int), (∀ W : World, Gr w W → Calls Tryz.prog 29 #[.int .i64 t] W fun e w' => e = .returned (.tuple #[.string ⟨L.toArray⟩, .int .i64 e']) ∧ Gr W w') ∧
    (∀ W : World, Calls Tryz.prog 44 #[.int .i64 t] W fun e w' => e = .returned (.tuple #[.string ⟨L.toArray⟩, .int .i64 e']) ∧ Gr W w') ∧ L.length ≤ 1000 ∧ (e' ≠ 0 → L = []) ∧ (e' = 0 → L.count 32 = 1) ∧ (Ck.inst t = true → e' = 0 ∨ e' = 20) := by
  cases hi : Ck.inst t
  · exact ⟨[], 2, fun W _ => text_bad t W hi, fun W => rtext_bad t W hi, by simp, fun _ => rfl, fun h => absurd h (by decide), fun h => by cases h⟩
  · by_cases hd : -730119 ≤ t / 86400 ∧ t / 86400 ≤ 2921939
    · obtain ⟨y', m', d', hv, hn⟩ := Ck.exists_date (t / 86400) hd.1 hd.2
      obtain ⟨u0, u1⟩ := Ck.split_secs t
      refine ⟨_, 0, fun W hg => text_any t y' m' d' W hi hv hn (ht.gr hg), fun W => rtext_any t y' m' d' W hi ?_ hv hn, by rw [Ck.txt_len hv u0 u1]; omega, fun h => absurd rfl h, fun _ => Ck.txt_sp _ _ _ _, fun _ => .inl rfl⟩
      unfold Ck.dated; simp only [Bool.and_eq_true, decide_eq_true_eq]; exact hd
    · refine ⟨[], 20, fun W _ => text_none t W hi (by omega), fun W => rtext_none t W hi ?_, by simp, fun _ => rfl, fun h => absurd h (by decide), fun _ => .inr rfl⟩
      unfold Ck.dated; simp only [Bool.and_eq_false_iff, decide_eq_false_iff_not]; omega
namespace Al
theorem mis_any (s : SlM) (a : A) (i : Nat) : Ba.any (fun j => isK a.nd (a.X i) (s.D j)) s.n = !mis s a i := by
  unfold mis plc
  rw [← Ba.fstI_ge]
  by_cases h : Ba.fstI (fun j => isK a.nd (a.X i) (s.D j)) s.n < 0
  · rw [decide_eq_true h, decide_eq_false (by omega)]; rfl
  · rw [decide_eq_false h, decide_eq_true (by omega)]; rfl
theorem mis_no {s : SlM} {a : A} {i : Nat} (h : mis s a i = false) : ∃ m ∈ s.lst, m.nd = a.nd ∧ m.nu = a.X i := by
  have := mis_any s a i
  rw [h, Bool.not_false, Ba.any_iff] at this
  obtain ⟨j, hj, hp⟩ := this
  unfold isK at hp
  rw [Bool.and_eq_true] at hp
  have hp2 := beq_iff_eq.1 hp.2
  refine ⟨s.D j, List.mem_map.2 ⟨j, List.mem_range.2 hj, rfl⟩, (eqS_iff' _ _).1 (show Ba.eqS _ _ = true from hp.1), hp2⟩
theorem mis_of {s : SlM} {a : A} {i : Nat} (h : ∃ m ∈ s.lst, m.nd = a.nd ∧ m.nu = a.X i) : mis s a i = false := by
  obtain ⟨m, hm, h1, h2⟩ := h
  obtain ⟨j, hj, rfl⟩ := List.mem_map.1 hm
  have hq := mis_any s a i
  rw [(Ba.any_iff _ _).2 ⟨j, List.mem_range.1 hj, by unfold isK; rw [Bool.and_eq_true]; exact ⟨(show Ba.eqS _ _ = true from (eqS_iff' _ _).2 h1), beq_iff_eq.2 h2⟩⟩] at hq
  cases e : mis s a i
  · rfl
  · rw [e] at hq; cases hq
theorem mOk_nu {m : M} (h : mOk m = true) : 0 ≤ m.nu ∧ m.nu ≤ 1073741824 := by
  unfold mOk Ba.bet at h
  simp only [Bool.and_eq_true, decide_eq_true_eq] at h
  exact h.2.1
theorem mOk_tm {m : M} (h : mOk m = true) : Ck.inst m.tm = true := by
  unfold mOk Ba.bet at h
  simp only [Bool.and_eq_true, decide_eq_true_eq] at h
  exact (Ck.inst_iff _).2 h.2.2.1
end Al
/-- Both Explains answer alike. -/
theorem exp_both (N : Ba.SlNode) (L : Ba.SlLink) (s : Al.SlM) (a : Al.A) (w : World) (hN : N.At w) (hL : L.At w) (h : s.At w) (ha : a.At w) (hv : Ba.netB N L = true) (hs : s.vB = true) (ht : Tab w) (hn40 : a.n ≤ 40) (hnd : a.nd.size ≤ 50) : ∃ (T : List UInt8) (E : Int),
    (∀ W, Gr w W → Calls Tryz.prog 7 #[Ba.netVal N L, .slice s.A s.n s.c, .agg #[.int .i64 a.kd, .string a.nd, .int .i64 a.tm, .slice a.p a.n a.c]] W fun e w' => e = .returned (.tuple #[.string ⟨T.toArray⟩, .int .i64 E]) ∧ Gr W w') ∧
    (∀ W, Gr w W → Calls Tryz.prog 11 #[.slice s.A s.n s.c, .agg #[.int .i64 a.kd, .string a.nd, .int .i64 a.tm, .slice a.p a.n a.c]] W fun e w' => e = .returned (.tuple #[.string ⟨T.toArray⟩, .int .i64 E]) ∧ Gr W w') ∧
    (1 ≤ a.kd ∧ a.kd ≤ 6 → (∀ i, i < a.n → Al.mis s a i = false) → Ck.inst a.tm = true → E = 20 ∨ (E = 0 ∧ ∃ L' : List UInt8, L'.count 32 = 1 ∧ T = Al.expl a.kd a.nd.data.toList L' a.X a.n)) := by
  have hvl := (Al.vB_iff s).1 hs
  have HR : ∀ W0, Gr w W0 → ∀ W, Gr W0 W → Calls Tryz.prog 25 #[.agg #[.slice N.A N.n N.c, .slice L.A L.n L.c], .slice s.A s.n s.c] W fun e w' => e = .returned (.bool true) ∧ Gr W w' := fun W0 h0 W hW => by
    have := aright_any N L s W (hN.gr (h0.trans hW)) (hL.gr (h0.trans hW)) (h.gr (h0.trans hW))
    rw [hv, hs] at this
    exact this
  by_cases hk : 1 ≤ a.kd ∧ a.kd ≤ 6
  case neg =>
    refine ⟨[], 11, fun W hW => ?_, fun W hW => ?_, fun q => absurd q hk⟩
    · refine Exp_kind N.A L.A N.n N.c L.n L.c s a W (ha.gr hW) (HR W hW) (fun W2 => ?_)
      have := awithin_any a.kd 1 6 W2
      rw [show Ba.bet a.kd 1 6 = false from by unfold Ba.bet; rw [Bool.and_eq_false_iff, decide_eq_false_iff_not, decide_eq_false_iff_not]; omega] at this
      exact this
    · exact rExp_kind s a W (h.gr hW) (ha.gr hW) (by omega)
  case pos =>
    have HW : ∀ W, Calls Tryz.prog 26 #[.int .i64 a.kd, .int .i64 1, .int .i64 6] W fun e w' => e = .returned (.bool true) ∧ W = w' := fun W => by
      have := awithin_any a.kd 1 6 W
      rw [show Ba.bet a.kd 1 6 = true from by unfold Ba.bet; rw [Bool.and_eq_true, decide_eq_true_eq, decide_eq_true_eq]; exact hk] at this
      exact this
    have HC : ∀ W0, Gr w W0 → ∀ i B K W, i < a.n → Gr W0 W → W.cell? ⟨B, 1, none⟩ = some (.string a.nd) → W.cell? ⟨K, 0, none⟩ = some (.int .i64 (a.X i)) → Calls Tryz.prog 23 #[.slice s.A s.n s.c, .func (.func 27) #[] #[.pointer (some ⟨B, 0, none⟩), .pointer (some ⟨K, 0, none⟩)]] W fun e w' => e = .returned (.bool (!Al.mis s a i)) ∧ Gr W w' := fun W0 h0 i B K W hi hW h1 h2 => by
      have := has_msg 27 #[.pointer (some ⟨B, 0, none⟩), .pointer (some ⟨K, 0, none⟩)] s (fun j => Al.isK a.nd (a.X i) (s.D j)) W (h.gr (h0.trans hW)) (enter_of Tryz.func27 (by kernel_rfl) (by kernel_rfl)) fun j hj W2 hW2 => exp1_any (s.D j) B K a.nd (a.X i) W2 (Gr.at hW2 h1) (Gr.at hW2 h2)
      rw [Al.mis_any] at this
      exact this
    have HX : ∀ i, i < a.n → Al.mis s a i = false → 0 ≤ a.X i ∧ a.X i ≤ 1073741824 := fun i hi hm => by
      obtain ⟨m, hm1, -, h2⟩ := Al.mis_no hm
      rw [← h2]; exact Al.mOk_nu (hvl.2.1 m hm1)
    have HI : ∀ W0, Gr w W0 → ∀ i W, i < a.n → Al.mis s a i = false → Gr W0 W → Calls Tryz.prog 28 #[.int .i64 (a.X i)] W fun e w' => e = .returned (.string ⟨(Lib.decDigits (a.X i).toNat).toArray⟩) ∧ Gr W w' := fun W0 h0 i W hi hm hW => by
      have := HX i hi hm
      exact itoa_any (a.X i) W this.1 (by omega) (.inr (ht.gr (h0.trans hW)))
    by_cases hm : ∃ i, i < a.n ∧ Al.mis s a i = true
    · refine ⟨[], 12, fun W hW => ?_, fun W hW => ?_, fun _ q => absurd hm (by rintro ⟨i, hi, e⟩; rw [q i hi] at e; cases e)⟩
      · exact Exp_none N.A L.A N.n N.c L.n L.c s a W (ha.gr hW) (HR W hW) HW (HC W hW) (HI W hW) hn40 hk hm
      · exact rExp_none s a W (h.gr hW) (ha.gr hW) hk hm
    · have hm' : ∀ i, i < a.n → Al.mis s a i = false := fun i hi => by
        cases e : Al.mis s a i
        · rfl
        · exact absurd ⟨i, hi, e⟩ hm
      obtain ⟨L', k, T1, T2, hL1, hL2, hL3, hL4⟩ := text_full a.tm w ht
      by_cases hk0 : k = 0
      · subst hk0
        refine ⟨_, 0, fun W hW => ?_, fun W hW => ?_, fun _ _ _ => .inr ⟨rfl, L', hL3 rfl, rfl⟩⟩
        · exact Exp_ok N.A L.A N.n N.c L.n L.c s a W (ha.gr hW) (HR W hW) HW (HC W hW) (HI W hW) hn40 hk hm' L' (fun W2 h2 => T1 W2 (hW.trans h2)) hL1 hnd (fun i hi => by have := HX i hi (hm' i hi); omega)
        · exact rExp_ok s a W (h.gr hW) (ha.gr hW) hk hm' L' (fun W2 _ => T2 W2) hL1 hnd hn40 (fun i hi => by have := HX i hi (hm' i hi); omega)
      · have := hL2 hk0
        subst this
        refine ⟨[], k, fun W hW => ?_, fun W hW => ?_, fun _ _ q => ?_⟩
        · exact Exp_time N.A L.A N.n N.c L.n L.c s a W (ha.gr hW) (HR W hW) HW (HC W hW) (HI W hW) hn40 hk hm' k [] (fun W2 h2 => T1 W2 (hW.trans h2)) hk0
        · exact rExp_time s a W (h.gr hW) (ha.gr hW) hk hm' [] k (fun W2 _ => T2 W2) hk0
        · rcases hL4 q with e | e
          · exact absurd e hk0
          · exact .inl e
end Go.Proofs.YtllkiadedaghoaaGreatDoor
set_option linter.unusedVariables false
set_option linter.unusedSimpArgs false
namespace Go.Proofs.YtllkiadedaghoaaGreatDoor
namespace Al
theorem nds_perm {l d : List M} (hp : l.Perm d) : (nds l).Perm (nds d) :=
  perm_of_mem (nds_nodup l) (nds_nodup d) fun x => by
    rw [mem_nds, mem_nds]
    exact ⟨fun ⟨m, h, e⟩ => ⟨m, hp.mem_iff.1 h, e⟩, fun ⟨m, h, e⟩ => ⟨m, hp.mem_iff.2 h, e⟩⟩
theorem ofN_perm {l d : List M} (hd : Dist l) (hp : l.Perm d) (s : ByteArray) : ofN l s = ofN d s := by
  unfold ofN; rw [srtM_congr hd hp]
theorem flat_perm {α β : Type} {l d : List α} (f : α → List β) (hp : l.Perm d) : (l.flatMap f).Perm (d.flatMap f) := by
  induction hp with
  | nil => exact List.Perm.refl _
  | cons x _ ih => rw [List.flatMap_cons, List.flatMap_cons]; exact List.Perm.append_left _ ih
  | swap x y l => rw [List.flatMap_cons, List.flatMap_cons, List.flatMap_cons, List.flatMap_cons, ← List.append_assoc, ← List.append_assoc]; exact List.Perm.append_right _ List.perm_append_comm
  | trans _ _ h1 h2 => exact h1.trans h2
theorem allC_perm {N : Ba.SlNode} {l d : List M} (hd : Dist l) (hp : l.Perm d) (most c : Int) : allC N l most c = allC N d most c := by
  unfold allC
  refine srt_congr ?_
  refine List.Perm.append (flat_perm _ hp) (List.Perm.append ?_ ?_)
  · unfold jmpC
    rw [show (fun s => jmp most (ofN l s)) = (fun s => jmp most (ofN d s)) from funext fun s => by rw [ofN_perm hd hp]]
    exact flat_perm _ (nds_perm hp)
  · unfold runC
    rw [show (fun s => run c (ofN l s)) = (fun s => run c (ofN d s)) from funext fun s => by rw [ofN_perm hd hp]]
    exact flat_perm _ (nds_perm hp)
theorem vL_perm {l d : List M} (h : vL l) (hp : l.Perm d) : vL d := ⟨by rw [← hp.length_eq]; exact h.1, fun m hm => h.2.1 m (hp.mem_iff.2 hm), h.2.2.perm hp⟩
theorem limI_alm {N : Ba.SlNode} {m : M} : ∀ c ∈ limI N m, (c.kd = 1 ∨ c.kd = 2 ∨ c.kd = 6) ∧ c = alm c.kd [m] := by
  intro c hc
  have key : ∀ k, c ∈ [alm k [m]] → c.kd = k ∧ c = alm c.kd [m] := fun k h => by rw [List.mem_singleton] at h; subst h; exact ⟨rfl, rfl⟩
  unfold limI at hc
  split at hc
  · obtain ⟨h1, h2⟩ := key _ hc; exact ⟨.inr (.inr h1), h2⟩
  · split at hc
    · obtain ⟨h1, h2⟩ := key _ hc; exact ⟨.inl h1, h2⟩
    · split at hc
      · obtain ⟨h1, h2⟩ := key _ hc; exact ⟨.inr (.inl h1), h2⟩
      · cases hc
theorem limI_nodup {N : Ba.SlNode} {m : M} : (limI N m).Nodup := by
  unfold limI
  split
  · simp
  · split
    · simp
    · split <;> simp
/-- Numbers that differ. -/
def NuD (l : List M) : Prop := l.Pairwise fun a b => a.nu ≠ b.nu
theorem ofN_nu {L : List M} (hd : Dist L) (s : ByteArray) : NuD (ofN L s) := by
  have h1 : Dist (ofN L s) := (hd.perm (srtM_perm L).symm).sub List.filter_sublist
  have h2 := ofN_all (l := L) (s := s)
  refine List.Pairwise.imp_of_mem ?_ h1
  intro a b ha hb h e
  exact h (by rw [h2 a ha, h2 b hb, e])
theorem jmp_nodup {most : Int} : ∀ l : List M, NuD l → (jmp most l).Nodup
  | [], _ => by simp [jmp]
  | [x], _ => by simp [jmp]
  | x :: y :: r, h => by
    rw [jmp, List.nodup_append]
    obtain ⟨h1, h2⟩ := List.pairwise_cons.1 h
    refine ⟨by split <;> simp, jmp_nodup (y :: r) h2, ?_⟩
    intro a ha b hb e
    have ha' : a = alm 3 [x, y] := by
      split at ha
      · exact List.mem_singleton.1 ha
      · cases ha
    obtain ⟨u, v, g1, g2, -⟩ := jmp_core _ b hb
    have hu : u ∈ y :: r := g1.subset (by simp)
    have hq : x.nu = u.nu := by
      have q := congrArg C.bc (ha'.symm.trans (e.trans g2))
      rw [alm_bc, alm_bc] at q
      simp at q; exact q.1
    exact h1 u hu hq
theorem run_nodup {k : Int} : ∀ (n : Nat) (l : List M), l.length ≤ n → NuD l → (run k l).Nodup
  | _, [], _, _ => by simp [run]
  | 0, x :: r, hl, _ => by simp at hl
  | n + 1, x :: r, hl, h => by
    obtain ⟨h1, h2⟩ := List.pairwise_cons.1 h
    have hle := (List.dropWhile_sublist (fun m : M => m.lv == x.lv) (l := r)).length_le
    rw [run, List.nodup_append]
    refine ⟨by split <;> simp, run_nodup n _ (by rw [List.length_cons] at hl; omega) (List.Pairwise.sublist (List.dropWhile_sublist _) h2), ?_⟩
    intro a ha b hb e
    have ha' : a = alm 4 (x :: r.takeWhile fun m => m.lv == x.lv) := by
      split at ha
      · exact List.mem_singleton.1 ha
      · cases ha
    obtain ⟨ms, g1, g2, g3, -⟩ := run_core _ _ (Nat.le_refl _) b hb
    obtain ⟨u, t, rfl⟩ : ∃ u t, ms = u :: t := by cases ms with
      | nil => exact absurd rfl g1
      | cons u t => exact ⟨u, t, rfl⟩
    have hu : u ∈ r := (List.dropWhile_sublist _).subset (g2.subset (by simp))
    have hq : x.nu = u.nu := by
      have q := congrArg C.bc (ha'.symm.trans (e.trans g3))
      rw [alm_bc, alm_bc] at q
      simp at q; exact q.1
    exact h1 u hu hq
theorem nodup_each {α β : Type} (f : α → List β) : ∀ l : List α, (∀ a ∈ l, (f a).Nodup) → (l.Pairwise fun a b => ∀ x ∈ f a, ∀ y ∈ f b, x ≠ y) → (l.flatMap f).Nodup
  | [], _, _ => by simp
  | a :: l, h1, h2 => by
    obtain ⟨g1, g2⟩ := List.pairwise_cons.1 h2
    rw [List.flatMap_cons, List.nodup_append]
    refine ⟨h1 a (by simp), nodup_each f l (fun b hb => h1 b (by simp [hb])) g2, ?_⟩
    intro x hx y hy
    obtain ⟨b, hb, hy⟩ := List.mem_flatMap.1 hy
    exact g1 b hb x hx y hy
theorem jmp_kd {most : Int} {l : List M} : ∀ c ∈ jmp most l, c.kd = 3 := fun c hc => by
  obtain ⟨x, y, -, h, -⟩ := jmp_core l c hc
  rw [h]; rfl
theorem run_kd {k : Int} {l : List M} : ∀ c ∈ run k l, c.kd = 4 := fun c hc => by
  obtain ⟨ms, -, -, h, -⟩ := run_core _ l (Nat.le_refl _) c hc
  rw [h]; rfl
theorem pre_nodup {N : Ba.SlNode} {l : List M} (hd : Dist l) (most c : Int) : (limC N l ++ (jmpC most l ++ runC c l)).Nodup := by
  rw [List.nodup_append, List.nodup_append]
  have kl : ∀ x ∈ limC N l, x.kd = 1 ∨ x.kd = 2 ∨ x.kd = 6 := fun x hx => by
    obtain ⟨m, -, h⟩ := List.mem_flatMap.1 hx
    exact (limI_alm x h).1
  have kj : ∀ x ∈ jmpC most l, x.kd = 3 := fun x hx => by
    obtain ⟨s, -, h⟩ := List.mem_flatMap.1 hx
    exact jmp_kd x h
  have kr : ∀ x ∈ runC c l, x.kd = 4 := fun x hx => by
    obtain ⟨s, -, h⟩ := List.mem_flatMap.1 hx
    exact run_kd x h
  refine ⟨nodup_each _ _ (fun m _ => limI_nodup) (List.Pairwise.imp (fun h x hx y hy e => ?_) hd), ⟨nodup_each _ _ (fun s _ => jmp_nodup _ (ofN_nu hd s)) (List.Pairwise.imp (fun h x hx y hy e => ?_) (nds_nodup l)), nodup_each _ _ (fun s _ => run_nodup _ _ (Nat.le_refl _) (ofN_nu hd s)) (List.Pairwise.imp (fun h x hx y hy e => ?_) (nds_nodup l)), ?_⟩, ?_⟩
  · refine h ?_
    have e1 := limI_nd x hx; have e2 := limI_nd y hy; have e3 := limI_bc x hx; have e4 := limI_bc y hy
    rw [e] at e1 e3
    rw [← e1, ← e2]
    rw [e3] at e4
    simp at e4; rw [e4]
  · exact h (by rw [← jmp_nd _ ofN_all x hx, ← jmp_nd _ ofN_all y hy, e])
  · exact h (by rw [← run_nd _ _ (Nat.le_refl _) ofN_all x hx, ← run_nd _ _ (Nat.le_refl _) ofN_all y hy, e])
  · intro x hx y hy e
    have h1 := kj x hx; have h2 := kr y hy; rw [e, h2] at h1; exact absurd h1 (by decide)
  · intro x hx y hy e
    have h1 := kl x hx
    rcases List.mem_append.1 hy with hy | hy
    · rw [e, kj y hy] at h1; rcases h1 with h1 | h1 | h1 <;> exact absurd h1 (by decide)
    · rw [e, kr y hy] at h1; rcases h1 with h1 | h1 | h1 <;> exact absurd h1 (by decide)
/-- Alarms are in their order, each once. -/
theorem allC_lt {N : Ba.SlNode} {l : List M} (hd : Dist l) (most c : Int) : (allC N l most c).Pairwise fun a b => bfA a b = true := by
  have h1 := srt_ok (limC N l ++ (jmpC most l ++ runC c l))
  have h2 : (srt (limC N l ++ (jmpC most l ++ runC c l))).Pairwise fun a b => a ≠ b := ((srt_perm _).nodup_iff).2 (pre_nodup hd most c)
  refine List.Pairwise.imp ?_ (h1.and h2)
  rintro a b ⟨h3, h4⟩
  unfold bfA
  rw [decide_eq_true_eq]
  rcases Int.lt_or_eq_of_le h3 with z | z
  · exact z
  · exact absurd (Gd.con.zero a b z) h4
/-- What explains an alarm. -/
theorem allC_alm {N : Ba.SlNode} {L : List M} {most k : Int} {a : C} (ha : a ∈ allC N L most k) : ∃ ms, ms ≠ [] ∧ ms.Sublist (ofN L a.nd) ∧ a = alm a.kd ms ∧ (a.kd = 1 ∨ a.kd = 2 ∨ a.kd = 3 ∨ a.kd = 4 ∨ a.kd = 6) := by
  unfold allC at ha
  rw [(srt_perm _).mem_iff, List.mem_append, List.mem_append] at ha
  rcases ha with ha | ha | ha
  · unfold limC at ha
    obtain ⟨m, hm, h⟩ := List.mem_flatMap.1 ha
    obtain ⟨h1, h2⟩ := limI_alm a h
    refine ⟨[m], by simp, ?_, h2, by omega⟩
    rw [limI_nd a h, List.singleton_sublist]
    exact List.mem_filter.2 ⟨(srtM_perm L).mem_iff.2 hm, (eqS_iff' _ _).2 rfl⟩
  · unfold jmpC at ha
    obtain ⟨s, hs, h⟩ := List.mem_flatMap.1 ha
    obtain ⟨x, y, h1, h2, h3⟩ := jmp_core _ a h
    have hk := jmp_kd a h
    refine ⟨[x, y], by simp, ?_, by rw [hk]; exact h2, by omega⟩
    rw [jmp_nd _ ofN_all a h]; exact h1
  · unfold runC at ha
    obtain ⟨s, hs, h⟩ := List.mem_flatMap.1 ha
    obtain ⟨ms, h1, h2, h3, h4⟩ := run_core _ _ (Nat.le_refl _) a h
    have hk := run_kd a h
    refine ⟨ms, h1, ?_, by rw [hk]; exact h3, by omega⟩
    rw [run_nd _ _ (Nat.le_refl _) ofN_all a h]; exact h2
/-- An alarm's node, its time and its numbers are those of messages. -/
theorem allC_ok {N : Ba.SlNode} {L : List M} {most k : Int} {a : C} (ha : a ∈ allC N L most k) : a.bc ≠ [] ∧ (a.kd = 1 ∨ a.kd = 2 ∨ a.kd = 3 ∨ a.kd = 4 ∨ a.kd = 6) ∧ (∃ m ∈ L, m.nd = a.nd ∧ m.tm = a.tm) ∧ ∀ x ∈ a.bc, ∃ m ∈ L, m.nd = a.nd ∧ m.nu = x := by
  obtain ⟨ms, h0, h1, h2, h3⟩ := allC_alm ha
  have hb : a.bc = ms.map M.nu := by rw [h2]; rfl
  have ht : a.tm = (ms.getLast?.getD default).tm := by rw [h2]; rfl
  refine ⟨by rw [hb]; simpa using h0, h3, ?_, fun x hx => ?_⟩
  · rw [List.getLast?_eq_some_getLast h0] at ht
    have hm : ms.getLast h0 ∈ ofN L a.nd := h1.subset (List.getLast_mem h0)
    exact ⟨_, ofN_sub hm, ofN_all _ hm, ht.symm⟩
  · rw [hb] at hx
    obtain ⟨m, hm, e⟩ := List.mem_map.1 hx
    exact ⟨m, ofN_sub (h1.subset hm), ofN_all m (h1.subset hm), e⟩
end Al
end Go.Proofs.YtllkiadedaghoaaGreatDoor
