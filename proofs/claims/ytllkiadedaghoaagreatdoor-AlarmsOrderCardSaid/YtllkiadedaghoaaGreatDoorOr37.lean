/-
  Alarms: alarms.within, jumping, standing, right; limits. (Printed by mkat.py.)
-/
import Derived.Test.YtllkiadedaghoaaGreatDoorOr26
import Derived.Test.YtllkiadedaghoaaGreatDoorOr28
import Derived.Test.YtllkiadedaghoaaGreatDoorOr36

set_option linter.unusedVariables false
set_option linter.unusedSimpArgs false
namespace Go.Proofs.YtllkiadedaghoaaGreatDoor
open Go.RowKit Go.Maps
attribute [local go_sem ↓] Go.wp_at_zero Go.wp_at_succ
namespace Al
/-- A map of the first nodes by their names. -/
def ndF (D : Nat → Ba.Node) (i : Nat) : Value → Option Value
  | .string s => (Ba.fst (fun j => Ba.eqS (D j).nm s) i).map fun j => (D j).val
  | _ => none
theorem fst_none_of {p : Nat → Bool} : ∀ {n : Nat}, (∀ j, j < n → p j = false) → Ba.fst p n = none
  | 0, _ => rfl
  | n + 1, h => by rw [Ba.fst, fst_none_of fun j hj => h j (by omega)]; simp [h n (by omega)]
theorem ndF_zero (D : Nat → Ba.Node) : ndF D 0 = fun _ => none := by
  funext v; unfold ndF; split <;> rfl
theorem ndF_self {N : Ba.SlNode} {L : Ba.SlLink} (h : Ba.netB N L = true) {i : Nat} (hi : i < N.n) : ndF N.D (i + 1) (.string (N.D i).nm) = some (N.D i).val := by
  unfold Ba.netB at h
  simp only [Bool.and_eq_true] at h
  have h1 := Ba.allB_at h.2.2.1 hi
  unfold Ba.nodeB at h1
  simp only [Bool.and_eq_true] at h1
  have h2 := eq_of_beq h1.2
  have h3 : ∀ j, j < i → Ba.eqS (N.D j).nm (N.D i).nm = false := by
    rcases Ba.nix_cases N (N.D i).nm with e | ⟨j, hj, e, -, g⟩
    · omega
    · obtain rfl : j = i := by omega
      exact g
  unfold ndF
  simp only
  have h4 := Ba.fst_hit (p := fun j => Ba.eqS (N.D j).nm (N.D i).nm) (i := i) (fst_none_of h3) ((eqS_iff' _ _).2 rfl) 0
  rw [show i + 1 + 0 = i + 1 by omega] at h4
  rw [h4]; rfl
theorem ndF_other (D : Nat → Ba.Node) (i : Nat) (x : Value) (hx : x ≠ .string (D i).nm) : ndF D (i + 1) x = ndF D i x := by
  unfold ndF
  split
  · rename_i s
    have : Ba.eqS (D i).nm s = false := by
      cases e : Ba.eqS (D i).nm s
      · rfl
      · exact absurd (by rw [(eqS_iff' _ _).1 e]) hx
    rw [Ba.fst]
    cases e : Ba.fst (fun j => Ba.eqS (D j).nm s) i with
    | some k => rfl
    | none => simp [this]
  · rfl
/-- What the map of all nodes answers: nothing, or the node's number. -/
theorem ndF_get (N : Ba.SlNode) (t : ByteArray) : (Ba.nix N t < 0 ∧ ndF N.D N.n (.string t) = none) ∨ (¬ Ba.nix N t < 0 ∧ (Ba.nix N t).toNat < N.n ∧ ndF N.D N.n (.string t) = some (N.D (Ba.nix N t).toNat).val) := by
  unfold Ba.nix Ba.fstI ndF
  cases e : Ba.fst (fun i => Ba.eqS (N.D i).nm t) N.n with
  | none => left; simp only [e]; exact ⟨by omega, rfl⟩
  | some k => right; simp only [e]; exact ⟨by omega, by simpa using (Ba.fst_some e).1, by simp⟩
theorem limI_len (N : Ba.SlNode) (m : M) : (limI N m).length ≤ 1 := by
  unfold limI; (repeat' split) <;> simp
theorem limC_len (N : Ba.SlNode) : ∀ l : List M, (limC N l).length ≤ l.length
  | [] => Nat.le_refl _
  | m :: l => by
    unfold limC
    rw [List.flatMap_cons, List.length_append, List.length_cons]
    have := limC_len N l
    have h2 := limI_len N m
    unfold limC at this
    omega
theorem limC_snoc (N : Ba.SlNode) (l : List M) (m : M) : limC N (l ++ [m]) = limC N l ++ limI N m := by simp [limC]
/-- What a function answers that returns a row of alarms: L, in whatever order. -/
def RetO (L : List C) (w : World) (e : Ending) (w' : World) : Prop := ∃ (v : Value) (d : List Al.A), e = .returned v ∧ OwnA w' w.heap.size v d ∧ (d.map Al.A.con).Perm L ∧ Gr w w'
theorem OwnA.base {w : World} {base base' : Nat} {v : Value} {d : List Al.A} (h : OwnA w base v d) (hb : base' ≤ base) : OwnA w base' v d := ⟨ownsRow_base h.row hb, h.own⟩
/-- One message, as a slice. -/
def SlM.one (B : Nat) (m : M) : SlM := ⟨some ⟨B, 0, none⟩, 1, 1, B, 0, fun _ => m⟩
theorem SlM.one_at {w : World} {B : Nat} {m : M} (h : m.Cells w B 0) (hok : m.Ok) : (SlM.one B m).At w := ⟨fun _ => rfl, Nat.le_refl _, show 1 ≤ 9223372036854775807 by decide, fun i hi => by
  obtain rfl : i = 0 := by have : i < 1 := hi; omega
  exact ⟨by simpa [SlM.one] using h, hok⟩⟩
def jmO (x : Int) : Bool := Ba.bet x 0 8388608
def stO (x : Int) : Bool := Ba.bet x 2 10000
end Al
theorem keyed_st : Keyed Tryz.prog 9 := keyed_str
theorem infoA : (Tryz.prog.info? 31).map (fun i => (i.zero, i.size, i.bytes)) = some (some (.agg #[.int .i64 0, .string ⟨#[]⟩, .int .i64 0, .slice none 0 0]), 4, 56) := by kernel_rfl
theorem zero_node (w : World) : (zeroValue 82).run Tryz.prog w = .ok (.agg #[.string ⟨#[]⟩, .int .i64 0, .int .i64 0, .int .i64 0, .int .i64 0, .int .i64 0, .slice none 0 0, .bool false, .int .i64 0]) w := by kernel_rfl
set_option maxRecDepth 100000 in
set_option maxHeartbeats 4000000 in
theorem awithin_any (x l h : Int) (w : World) : Calls Tryz.prog 26 #[.int .i64 x, .int .i64 l, .int .i64 h] w fun e w' => e = .returned (.bool (Ba.bet x l h)) ∧ w = w' := by
  unfold Ba.bet
  cases t0 : decide (l ≤ x)
  · go_enter Tryz.func26, Tryz.ntmps26
    go_wp2_with fail
    go_ret
    exact ⟨rfl, rfl⟩
  · cases t1 : decide (x ≤ h)
    · go_enter Tryz.func26, Tryz.ntmps26
      go_wp2_with fail
      go_ret
      exact ⟨rfl, rfl⟩
    · go_enter Tryz.func26, Tryz.ntmps26
      go_wp2_with fail
      go_ret
      exact ⟨rfl, rfl⟩
set_option maxRecDepth 100000 in
set_option maxHeartbeats 4000000 in
theorem jumping_any (x : Int) (w : World) : Calls Tryz.prog 65 #[.int .i64 x] w fun e w' => e = .returned (.bool (Al.jmO x)) ∧ w = w' := by
  have HC := Lib.hid (fun W => awithin_any x 0 8388608 W)
  unfold Al.jmO
  generalize Ba.bet x 0 8388608 = b at *
  go_enter Tryz.func65, Tryz.ntmps65
  go_wp2_with fail
  refine (HC.out _).mono ?_
  rintro e w1 ⟨rfl, rfl⟩
  go_wp2_with fail
  go_ret
  exact ⟨rfl, rfl⟩
set_option maxRecDepth 100000 in
set_option maxHeartbeats 4000000 in
theorem standing_any (x : Int) (w : World) : Calls Tryz.prog 66 #[.int .i64 x] w fun e w' => e = .returned (.bool (Al.stO x)) ∧ w = w' := by
  have HC := Lib.hid (fun W => awithin_any x 2 10000 W)
  unfold Al.stO
  generalize Ba.bet x 2 10000 = b at *
  go_enter Tryz.func66, Tryz.ntmps66
  go_wp2_with fail
  refine (HC.out _).mono ?_
  rintro e w1 ⟨rfl, rfl⟩
  go_wp2_with fail
  go_ret
  exact ⟨rfl, rfl⟩
set_option maxRecDepth 100000 in
set_option maxHeartbeats 4000000 in
theorem aright_any (N : Ba.SlNode) (L : Ba.SlLink) (s : Al.SlM) (w : World) (hN : N.At w) (hL : L.At w) (h : s.At w) : Calls Tryz.prog 25 #[Ba.netVal N L, .slice s.A s.n s.c] w fun e w' => e = .returned (.bool (Ba.netB N L && s.vB)) ∧ Gr w w' := by
  have HN := Lib.hid (fun W (hW : Gr w W) => netvalid_any N L W (hN.gr hW) (hL.gr hW))
  have HV := Lib.hid (fun W (hW : Gr w W) => tvalid_any s W (h.gr hW))
  clear hN hL h
  unfold Ba.netVal at *
  generalize Ba.netB N L = a at *; generalize s.vB = b at *
  generalize N.A = nA at *; generalize N.n = nn at *; generalize N.c = nc at *; generalize L.A = lA at *; generalize L.n = ln at *; generalize L.c = lc at *; generalize s.A = sA at *; generalize s.n = sn at *; generalize s.c = sc at *
  cases a
  · go_enter Tryz.func25, Tryz.ntmps25
    go_wp2_with fail
    refine (HN.out _ gr_auto).mono ?_
    rintro e w1 ⟨rfl, hb1⟩
    go_wp2_with fail
    go_ret
    exact ⟨rfl, gr_auto⟩
  · go_enter Tryz.func25, Tryz.ntmps25
    go_wp2_with fail
    refine (HN.out _ gr_auto).mono ?_
    rintro e w1 ⟨rfl, hb1⟩
    have g1 : Gr w w1 := gr_auto
    clear hb1 HN
    go_wp2_with fail
    refine (HV.out _ g1).mono ?_
    rintro e w2 ⟨rfl, hb2⟩
    have g2 := g1.trans hb2
    go_wp2_with fail
    go_ret
    exact ⟨rfl, g2⟩
set_option maxRecDepth 100000 in
set_option maxHeartbeats 4000000 in
theorem limits_any (N : Ba.SlNode) (L : Ba.SlLink) (s : Al.SlM) (w : World) (hN : N.At w) (hL : L.At w) (h : s.At w) (hnb : Ba.netB N L = true) (hsn : s.n ≤ 10000) : Calls Tryz.prog 70 #[Ba.netVal N L, .slice s.A s.n s.c] w (Al.RetO (Al.limC N s.lst) w) := by
  have HAl := Lib.hid (fun (kd : Int) (B : Nat) (W : World) (m : Al.M) (hok : m.Ok) (c0 : W.cell? ⟨B, 0, none⟩ = some (.string m.nd)) (c1 : W.cell? ⟨B, 1, none⟩ = some (.int .i64 m.nu)) (c2 : W.cell? ⟨B, 2, none⟩ = some (.int .i64 m.tm)) (c3 : W.cell? ⟨B, 3, none⟩ = some (.int .i64 m.ar)) (c4 : W.cell? ⟨B, 4, none⟩ = some (.int .i64 m.lv)) => show Calls Tryz.prog 109 #[.int .i64 kd, .slice (some ⟨B, 0, none⟩) 1 1] W (fun e w' => ∃ a : Al.A, e = .returned (.agg a.enc.toArray) ∧ a.con = Al.alm kd [m] ∧ a.Own w' ∧ Gr W w') from alarm_any kd (Al.SlM.one B m) W (Al.SlM.one_at ⟨c0, c1, c2, c3, c4⟩ hok) (show 0 < 1 by decide) (show 1 ≤ 1000000 by decide))
  obtain ⟨i1, k0, k1, k2, k3⟩ := info_parts infoA
  have KI := Lib.hid k0; have KZ0 := Lib.hid k1; have KZ1 := Lib.hid k2; have KZ2 := Lib.hid k3
  clear k0 k1 k2 k3
  have hmm := @run_makeMap Tryz.prog
  have NA := Lib.hid hN.hA; have NX := Lib.hid hN.hD
  have hnc := hN.hc; have hnb2 := hN.hb
  have HA := Lib.hid h.hA; have HX := Lib.hid h.hD
  have hc := h.hc; have hb := h.hb
  have HN := Lib.hid (Al.SlM.lst_len s).symm
  have hDD := Lib.hid (fun i (hi : i < s.lst.length) => Al.lst_get s i hi)
  have HF1 := Lib.hid (fun i (hi : i < N.n) => Al.ndF_self hnb hi)
  have HF2 := Lib.hid (fun i x hx => Al.ndF_other N.D i x hx)
  have HG := Lib.hid (fun t => Al.ndF_get N t)
  clear hN hL h hnb
  unfold Ba.netVal
  generalize s.lst = T at *
  obtain ⟨nD, hnD⟩ : ∃ z, N.D = z := ⟨_, rfl⟩; obtain ⟨nn, hnn⟩ : ∃ z, N.n = z := ⟨_, rfl⟩; obtain ⟨nA, hnA⟩ : ∃ z, N.A = z := ⟨_, rfl⟩; obtain ⟨nc, hncc⟩ : ∃ z, N.c = z := ⟨_, rfl⟩
  have HND := Lib.hid hnD
  rw [hnD] at NX HF1 HF2 HG; rw [hnn] at NA NX HF1 HG hnc ⊢; rw [hnA] at NA ⊢; rw [hncc] at hnc hnb2 ⊢
  clear hnD hnn hnA hncc
  generalize N.b = nb at *; generalize N.o = no at *
  generalize L.A = lA at *; generalize L.n = ln at *; generalize L.c = lc at *
  cases s with | mk A n c b o D =>
  simp only [] at *
  go_enter Tryz.func70, Tryz.ntmps70
  go_wp2_with fail
  refine name_world ?_
  intro W4 hW4
  have g4 : Gr w W4 := by rw [hW4]; exact gr_auto
  have HM4 := Lib.hid (show MapIs Tryz.prog 9 W4 (w.heap.size + 1) 0 (Al.ndF nD 0) from by
    rw [Al.ndF_zero, hW4]
    have z := MapIs.made Tryz.prog 9 (w.alloc (Obj.cells #[.slice nA nn nc, .slice lA ln lc] 25))
    simpa using z)
  have hcb0 : W4.cell? ⟨w.heap.size, 0, none⟩ = some (.slice nA nn nc) := by rw [hW4]; simp [go_sem]
  have hz4 : w.heap.size + 1 < W4.heap.size := by rw [hW4]; simp
  clear hW4
  obtain ⟨MB, hMB⟩ : ∃ MB, MB = w.heap.size + 1 := ⟨_, rfl⟩
  rw [← hMB] at HM4 hz4 ⊢
  have hMBw : w.heap.size < MB := by omega
  clear hMB hcb0
  go_loopw [17] (fun x wr => ∃ i : Nat, i ≤ nn ∧ x = .int .i64 (i : Int) ∧ Hid (MapIs Tryz.prog 9 wr MB i (Al.ndF nD i)) ∧ Gr w wr) (fun x _ => nn - (intOf x).toNat)
  case atStart => exact ⟨0, Nat.zero_le _, rfl, HM4, g4⟩
  case round =>
    clear HM4
    obtain ⟨i, hi, rfl, HM, hg⟩ := hrel
    by_cases hlt : i < nn
    · obtain rfl := NA.out (by omega)
      obtain ⟨hcl, hok⟩ := NX.out i hlt
      obtain ⟨a0, a1, a2, a3, a4, a5, a6, a7, a8⟩ := hcl.gr hg
      have ib0 : (0 : Int) ≤ (i : Int) := by omega
      have ib1 : (i : Int) < (nn : Int) := by omega
      have bN : nb < wr.heap.size := World.block_lt_of_cell? _ _ a0
      have hf1 := HF1.out i hlt
      have hf2 := HF2.out i
      obtain ⟨kl, hkl⟩ := key_str (nD i).nm hok.2.2.2.2.2.2.1
      clear NX hcl hok HF1 HF2 HG HA HX hDD HAl HND
      generalize nD i = d at *
      unfold Ba.Node.val at hf1
      obtain ⟨w8, hrun, hst, hgb, hgx⟩ := (HM.out.gr (Gr.alloc (Gr.refl wr) (Obj.cells #[.string d.nm, .int .i64 d.kd, .int .i64 d.ax, .int .i64 d.ay, .int .i64 d.iv, .int .i64 d.gr, .slice d.sh.A d.sh.n d.sh.c, .bool d.pr, .int .i64 d.rs] 82))).store (val := .agg #[.string d.nm, .int .i64 d.kd, .int .i64 d.ax, .int .i64 d.ay, .int .i64 d.iv, .int .i64 d.gr, .slice d.sh.A d.sh.n d.sh.c, .bool d.pr, .int .i64 d.rs]) keyed_st Tryz.underlying136 hkl
      have HM8 := Lib.hid (hst (Al.ndF nD (i + 1)) hf1 hf2)
      have g8 : Gr w w8 := GrX.gr (hg.alloc _) (by omega) hgx
      clear hst hgb hgx HM hf1 hf2 hkl
      go_wp2_with fail
      go_roundw
      case rel => exact ⟨i + 1, by omega, by go_num, HM8, g8⟩
      case measure => simp [intOf]; omega
    · obtain rfl : nn = i := by omega
      clear NA NX HF1 HF2
      have hMlt := HM.out.lt
      go_wp2_with fail
      refine name_world ?_
      intro W5 hW5
      obtain rfl : W5 = wr := hW5
      go_loopw [8, 28] (fun v x wr => ∃ i : Nat, i ≤ n ∧ x = .int .i64 (i : Int) ∧ (∃ ds, Hid (Al.OwnA wr W5.heap.size v ds) ∧ Hid (ds.map Al.A.con = Al.limC N (T.take i))) ∧ Gr W5 wr) (fun _ x _ => n - (intOf x).toNat)
      case atStart => exact ⟨0, Nat.zero_le _, rfl, ⟨[], Lib.hid (Al.OwnA.nil _ _), Lib.hid rfl⟩, Gr.refl _⟩
      case round =>
        obtain ⟨i, hi, rfl, ⟨ds, HO, HL⟩, hg2⟩ := hrel
        have gw := hg.trans hg2
        by_cases hlt : i < n
        · obtain rfl := HA.out (by omega)
          obtain ⟨hcl, hok⟩ := HX.out i hlt
          obtain ⟨a0, a1, a2, a3, a4⟩ := hcl.gr gw
          have ib0 : (0 : Int) ≤ (i : Int) := by omega
          have ib1 : (i : Int) < (n : Int) := by omega
          have bN : b < wr.heap.size := World.block_lt_of_cell? _ _ a0
          obtain ⟨kl, hkl⟩ := key_str (D i).nd hok.nd
          have HDD' := Lib.hid (hDD.out i (by rw [← HN.out]; exact hlt))
          have hds : ds.length ≤ 10000 := by
            have z := Al.limC_len N (T.take i)
            have y := congrArg List.length HL.out
            rw [List.length_map] at y
            rw [List.length_take] at z
            omega
          have HI := Lib.hid (show Al.limI N (D i) = if Ba.nix N (D i).nd < 0 then [Al.alm 6 [D i]] else if (D i).lv < (N.D (Ba.nix N (D i).nd).toNat).iv then [Al.alm 1 [D i]] else if (N.D (Ba.nix N (D i).nd).toNat).gr < (D i).lv then [Al.alm 2 [D i]] else [] from rfl)
          rw [HND.out] at HI
          have hlk := (HM.out.gr (hg2.alloc (Obj.cells #[.string (D i).nd, .int .i64 (D i).nu, .int .i64 (D i).tm, .int .i64 (D i).ar, .int .i64 (D i).lv] 53))).look true keyed_st Tryz.underlying136 (zero_node _) hkl
          rw [if_pos rfl] at hlk
          have hget := HG.out (D i).nd
          have HAl' := Lib.hid (fun kd B W => HAl.out kd B W (D i) hok)
          clear HX HA hcl hDD HG hkl hok HAl HM
          have HAl := HAl'
          clear HAl'
          generalize D i = m at *
          rcases hget with ⟨hx, hf⟩ | ⟨hx, hxn, hf⟩
          · rw [if_pos hx] at HI
            rw [hf] at hlk
            simp only [Option.getD_none, Option.isSome_none] at hlk
            clear hx hf
            go_wp2_with fail
            refine (HAl.out 6 _ _ (by simp [go_sem, *]) (by simp [go_sem, *]) (by simp [go_sem, *]) (by simp [go_sem, *]) (by simp [go_sem, *])).mono ?_
            rintro e w7 ⟨a, rfl, hcon, hown, hb7⟩
            have g7 : Gr wr w7 := gr_auto
            have HO7 := Lib.hid (HO.out.gr g7)
            have HA7 := Lib.hid hown
            have HC7 := Lib.hid hcon
            clear hcon hown HO HAl hb7
            have hz7 := Gr.size (hg2.trans g7)
            unfold Al.A.enc
            obtain ⟨akd, hakd⟩ : ∃ z, a.kd = z := ⟨_, rfl⟩; obtain ⟨and_, hand⟩ : ∃ z, a.nd = z := ⟨_, rfl⟩; obtain ⟨atm, hatm⟩ : ∃ z, a.tm = z := ⟨_, rfl⟩; obtain ⟨asl, hasl⟩ : ∃ z, Value.slice a.p a.n a.c = z := ⟨_, rfl⟩
            have HE := Lib.hid (show a.enc = [.int .i64 akd, .string and_, .int .i64 atm, asl] from by unfold Al.A.enc; rw [hakd, hand, hatm, hasl])
            rw [hakd, hand, hatm, hasl]
            clear hakd hand hatm
            have HSL := Lib.hid (show asl.oneCell' = true from by rw [← hasl]; rfl)
            clear hasl
            go_wp2_with (at_builtin; refine wpList_append_own _ rfl _ _ 48 rfl W5.heap.size 31 i1 (.agg #[.int .i64 0, .string ⟨#[]⟩, .int .i64 0, .slice none 0 0]) 4 56 Tryz.underlying48 KI.out KZ0.out KZ1.out KZ2.out rfl (by decide) _ _ _ rfl (ownsRow_gr HO7.out.row (by exact gr_auto)) ⟨w7.heap.size, 0, none⟩ 1 1 [.int .i64 akd, .string and_, .int .i64 atm, asl] rfl rfl (cells_new w7 #[.int .i64 akd, .string and_, .int .i64 atm, asl] 31) (by intro u hu; simp at hu; rcases hu with rfl | rfl | rfl | rfl <;> first | rfl | exact HSL.out) (by unfold maxLen; omega) (by omega) (by simp; omega) ?_)
            intro v' w9 hown' hgrow hnil
            have HP := Lib.hid (Al.OwnA.push (HO7.out.gr (Gr.alloc (Gr.refl w7) _)) (HA7.out.gr (Gr.alloc (Gr.refl w7) _)) (by rw [HE.out]; exact hown') hgrow)
            have g9 : Gr W5 w9 := Gr.own ((hg2.trans g7).alloc _) (Nat.le_refl _) (ownsRow_gr HO7.out.row (Gr.alloc (Gr.refl w7) _)) hgrow
            have HL9 := Lib.hid (show (ds ++ [a]).map Al.A.con = Al.limC N (T.take (i + 1)) from by
              rw [List.map_append, HL.out, List.take_succ_eq_append_getElem (by rw [← HN.out]; exact hlt), Al.limC_snoc, HDD'.out]
              simp only [List.map_cons, List.map_nil, HC7.out]
              rw [HI.out])
            clear HO7 HA7 HC7 HE HSL hown' hgrow hnil g7 HL HI
            go_wp2_with fail
            go_roundw
            case rel => exact ⟨i + 1, by omega, by go_num, ⟨_, HP, HL9⟩, g9⟩
            case measure => simp [intOf]; omega
          · rw [if_neg (show ¬ Ba.nix N m.nd < 0 by omega)] at HI
            rw [hf] at hlk
            simp only [Option.getD_some, Option.isSome_some] at hlk
            clear hx hf hxn
            generalize nD (Ba.nix N m.nd).toNat = d at *
            unfold Ba.Node.val at hlk
            by_cases h1 : m.lv < d.iv
            · rw [if_pos h1] at HI
              go_wp2_with fail
              refine (HAl.out 1 _ _ (by simp [go_sem, *]) (by simp [go_sem, *]) (by simp [go_sem, *]) (by simp [go_sem, *]) (by simp [go_sem, *])).mono ?_
              rintro e w7 ⟨a, rfl, hcon, hown, hb7⟩
              have g7 : Gr wr w7 := gr_auto
              have HO7 := Lib.hid (HO.out.gr g7)
              have HA7 := Lib.hid hown
              have HC7 := Lib.hid hcon
              clear hcon hown HO HAl hb7
              have hz7 := Gr.size (hg2.trans g7)
              unfold Al.A.enc
              obtain ⟨akd, hakd⟩ : ∃ z, a.kd = z := ⟨_, rfl⟩; obtain ⟨and_, hand⟩ : ∃ z, a.nd = z := ⟨_, rfl⟩; obtain ⟨atm, hatm⟩ : ∃ z, a.tm = z := ⟨_, rfl⟩; obtain ⟨asl, hasl⟩ : ∃ z, Value.slice a.p a.n a.c = z := ⟨_, rfl⟩
              have HE := Lib.hid (show a.enc = [.int .i64 akd, .string and_, .int .i64 atm, asl] from by unfold Al.A.enc; rw [hakd, hand, hatm, hasl])
              rw [hakd, hand, hatm, hasl]
              clear hakd hand hatm
              have HSL := Lib.hid (show asl.oneCell' = true from by rw [← hasl]; rfl)
              clear hasl
              go_wp2_with (at_builtin; refine wpList_append_own _ rfl _ _ 48 rfl W5.heap.size 31 i1 (.agg #[.int .i64 0, .string ⟨#[]⟩, .int .i64 0, .slice none 0 0]) 4 56 Tryz.underlying48 KI.out KZ0.out KZ1.out KZ2.out rfl (by decide) _ _ _ rfl (ownsRow_gr HO7.out.row (by exact gr_auto)) ⟨w7.heap.size, 0, none⟩ 1 1 [.int .i64 akd, .string and_, .int .i64 atm, asl] rfl rfl (cells_new w7 #[.int .i64 akd, .string and_, .int .i64 atm, asl] 31) (by intro u hu; simp at hu; rcases hu with rfl | rfl | rfl | rfl <;> first | rfl | exact HSL.out) (by unfold maxLen; omega) (by omega) (by simp; omega) ?_)
              intro v' w9 hown' hgrow hnil
              have HP := Lib.hid (Al.OwnA.push (HO7.out.gr (Gr.alloc (Gr.refl w7) _)) (HA7.out.gr (Gr.alloc (Gr.refl w7) _)) (by rw [HE.out]; exact hown') hgrow)
              have g9 : Gr W5 w9 := Gr.own ((hg2.trans g7).alloc _) (Nat.le_refl _) (ownsRow_gr HO7.out.row (Gr.alloc (Gr.refl w7) _)) hgrow
              have HL9 := Lib.hid (show (ds ++ [a]).map Al.A.con = Al.limC N (T.take (i + 1)) from by
                rw [List.map_append, HL.out, List.take_succ_eq_append_getElem (by rw [← HN.out]; exact hlt), Al.limC_snoc, HDD'.out]
                simp only [List.map_cons, List.map_nil, HC7.out]
                rw [HI.out])
              clear HO7 HA7 HC7 HE HSL hown' hgrow hnil g7 HL HI
              go_wp2_with fail
              go_roundw
              case rel => exact ⟨i + 1, by omega, by go_num, ⟨_, HP, HL9⟩, g9⟩
              case measure => simp [intOf]; omega
            · rw [if_neg h1] at HI
              have h1' : d.iv ≤ m.lv := by omega
              by_cases h2 : d.gr < m.lv
              · rw [if_pos h2] at HI
                go_wp2_with fail
                refine (HAl.out 2 _ _ (by simp [go_sem, *]) (by simp [go_sem, *]) (by simp [go_sem, *]) (by simp [go_sem, *]) (by simp [go_sem, *])).mono ?_
                rintro e w7 ⟨a, rfl, hcon, hown, hb7⟩
                have g7 : Gr wr w7 := gr_auto
                have HO7 := Lib.hid (HO.out.gr g7)
                have HA7 := Lib.hid hown
                have HC7 := Lib.hid hcon
                clear hcon hown HO HAl hb7
                have hz7 := Gr.size (hg2.trans g7)
                unfold Al.A.enc
                obtain ⟨akd, hakd⟩ : ∃ z, a.kd = z := ⟨_, rfl⟩; obtain ⟨and_, hand⟩ : ∃ z, a.nd = z := ⟨_, rfl⟩; obtain ⟨atm, hatm⟩ : ∃ z, a.tm = z := ⟨_, rfl⟩; obtain ⟨asl, hasl⟩ : ∃ z, Value.slice a.p a.n a.c = z := ⟨_, rfl⟩
                have HE := Lib.hid (show a.enc = [.int .i64 akd, .string and_, .int .i64 atm, asl] from by unfold Al.A.enc; rw [hakd, hand, hatm, hasl])
                rw [hakd, hand, hatm, hasl]
                clear hakd hand hatm
                have HSL := Lib.hid (show asl.oneCell' = true from by rw [← hasl]; rfl)
                clear hasl
                go_wp2_with (at_builtin; refine wpList_append_own _ rfl _ _ 48 rfl W5.heap.size 31 i1 (.agg #[.int .i64 0, .string ⟨#[]⟩, .int .i64 0, .slice none 0 0]) 4 56 Tryz.underlying48 KI.out KZ0.out KZ1.out KZ2.out rfl (by decide) _ _ _ rfl (ownsRow_gr HO7.out.row (by exact gr_auto)) ⟨w7.heap.size, 0, none⟩ 1 1 [.int .i64 akd, .string and_, .int .i64 atm, asl] rfl rfl (cells_new w7 #[.int .i64 akd, .string and_, .int .i64 atm, asl] 31) (by intro u hu; simp at hu; rcases hu with rfl | rfl | rfl | rfl <;> first | rfl | exact HSL.out) (by unfold maxLen; omega) (by omega) (by simp; omega) ?_)
                intro v' w9 hown' hgrow hnil
                have HP := Lib.hid (Al.OwnA.push (HO7.out.gr (Gr.alloc (Gr.refl w7) _)) (HA7.out.gr (Gr.alloc (Gr.refl w7) _)) (by rw [HE.out]; exact hown') hgrow)
                have g9 : Gr W5 w9 := Gr.own ((hg2.trans g7).alloc _) (Nat.le_refl _) (ownsRow_gr HO7.out.row (Gr.alloc (Gr.refl w7) _)) hgrow
                have HL9 := Lib.hid (show (ds ++ [a]).map Al.A.con = Al.limC N (T.take (i + 1)) from by
                  rw [List.map_append, HL.out, List.take_succ_eq_append_getElem (by rw [← HN.out]; exact hlt), Al.limC_snoc, HDD'.out]
                  simp only [List.map_cons, List.map_nil, HC7.out]
                  rw [HI.out])
                clear HO7 HA7 HC7 HE HSL hown' hgrow hnil g7 HL HI
                go_wp2_with fail
                go_roundw
                case rel => exact ⟨i + 1, by omega, by go_num, ⟨_, HP, HL9⟩, g9⟩
                case measure => simp [intOf]; omega
              · rw [if_neg h2] at HI
                have h2' : m.lv ≤ d.gr := by omega
                have HO9 := Lib.hid (HO.out.gr (Gr.alloc (Gr.alloc (Gr.refl wr) (Obj.cells #[.string m.nd, .int .i64 m.nu, .int .i64 m.tm, .int .i64 m.ar, .int .i64 m.lv] 53)) (Obj.cells #[.string d.nm, .int .i64 d.kd, .int .i64 d.ax, .int .i64 d.ay, .int .i64 d.iv, .int .i64 d.gr, .slice d.sh.A d.sh.n d.sh.c, .bool d.pr, .int .i64 d.rs] 82)))
                have HL9 := Lib.hid (show ds.map Al.A.con = Al.limC N (T.take (i + 1)) from by
                  rw [HL.out, List.take_succ_eq_append_getElem (by rw [← HN.out]; exact hlt), Al.limC_snoc, HDD'.out, HI.out, List.append_nil])
                have g9 : Gr W5 _ := Gr.alloc (Gr.alloc hg2 (Obj.cells #[.string m.nd, .int .i64 m.nu, .int .i64 m.tm, .int .i64 m.ar, .int .i64 m.lv] 53)) (Obj.cells #[.string d.nm, .int .i64 d.kd, .int .i64 d.ax, .int .i64 d.ay, .int .i64 d.iv, .int .i64 d.gr, .slice d.sh.A d.sh.n d.sh.c, .bool d.pr, .int .i64 d.rs] 82)
                clear HO HL HI HAl
                go_wp2_with fail
                go_roundw
                case rel => exact ⟨i + 1, by omega, by go_num, ⟨_, HO9, HL9⟩, g9⟩
                case measure => simp [intOf]; omega
        · obtain rfl : n = i := by omega
          have HLf := Lib.hid (show ds.map Al.A.con = Al.limC N T from by have := HL.out; rw [HN.out, List.take_length] at this; exact this)
          have hz5 := Gr.size hg
          clear HX HA hDD HG HAl HM HL HN
          go_wp2_with fail
          go_ret
          exact ⟨_, ds, rfl, HO.out.base hz5, by rw [HLf.out], gw⟩
end Go.Proofs.YtllkiadedaghoaaGreatDoor
