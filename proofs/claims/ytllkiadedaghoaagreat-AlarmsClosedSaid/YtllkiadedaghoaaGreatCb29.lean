/-
  Alarms: Balance. (Printed by mkblf.py.)
-/
import Derived.Test.YtllkiadedaghoaaGreatCb07
import Derived.Test.YtllkiadedaghoaaGreatCm11
import Derived.Test.YtllkiadedaghoaaGreatCb28
import Derived.Test.YtllkiadedaghoaaGreatCb15

set_option linter.unusedVariables false
set_option linter.unusedSimpArgs false
namespace Go.Proofs.YtllkiadedaghoaaGreat
open Go.RowKit Go.Shelf Go.Sort Go.Maps
attribute [local go_sem ↓] Go.wp_at_zero Go.wp_at_succ
namespace Ba
/-- What a look-up of a number answers: the number, and the error. -/
def fnd (i : Int) : Int := if i < 0 then 0 else i
def fndE (i : Int) : Int := if i < 0 then 9 else 0
end Ba
set_option maxRecDepth 100000 in
theorem found_any (N : Ba.SlNode) (L : Ba.SlLink) (i : Int) (w : World) : Calls Tryz.prog 103 #[Ba.netVal N L, .int .i64 i] w fun e w' => e = .returned (.tuple #[.int .i64 (Ba.fnd i), .int .i64 (Ba.fndE i)]) ∧ Gr w w' := by
  unfold Ba.fnd Ba.fndE Ba.netVal
  by_cases h : i < 0
  · rw [if_pos h, if_pos h]
    have t0 : decide (i < 0) = true := decide_eq_true h
    clear h
    go_enter Tryz.func103, Tryz.ntmps103
    go_wp2_with fail
    go_ret2
    exact ⟨rfl, gr_auto⟩
  · rw [if_neg h, if_neg h]
    have t0 : decide (i < 0) = false := decide_eq_false h
    clear h
    go_enter Tryz.func103, Tryz.ntmps103
    go_wp2_with fail
    go_ret2
    exact ⟨rfl, gr_auto⟩
set_option maxRecDepth 100000 in
set_option maxHeartbeats 1000000 in
theorem nodeno_any (N : Ba.SlNode) (L : Ba.SlLink) (t : ByteArray) (w : World) (hN : N.At w) (hL : L.At w) : Calls Tryz.prog 75 #[Ba.netVal N L, .string t] w fun e w' => e = .returned (.tuple #[.int .i64 (if Ba.netB N L = true then Ba.fnd (Ba.nix N t) else 0), .int .i64 (if Ba.netB N L = true then Ba.fndE (Ba.nix N t) else 1)]) ∧ Gr w w' := by
  have HV := Lib.hid (fun W (hg : Gr w W) => netvalid_any N L W (hN.gr hg) (hL.gr hg))
  have HI := Lib.hid (fun W (hg : Gr w W) => node_any N L.A L.n L.c t W (hN.gr hg))
  have HF := Lib.hid (fun W => found_any N L (Ba.nix N t) W)
  clear hN hL
  change Hid (∀ W, Gr w W → Calls _ _ _ W fun e w' => e = .returned (.int .i64 (Ba.nix N t)) ∧ Gr W w') at HI
  generalize Ba.nix N t = q at *
  cases h : Ba.netB N L
  · rw [if_neg (by decide), if_neg (by decide)]
    rw [h] at HV
    clear h HI HF
    unfold Ba.netVal at *
    go_enter Tryz.func75, Tryz.ntmps75
    go_wp2_with fail
    refine (HV.out _ gr_auto).mono ?_
    rintro e w1 ⟨rfl, hb1⟩
    go_wp2_with fail
    go_ret2
    exact ⟨rfl, gr_auto⟩
  · rw [if_pos rfl, if_pos rfl]
    rw [h] at HV
    clear h
    generalize Ba.fnd q = q1 at *; generalize Ba.fndE q = q2 at *
    unfold Ba.netVal at *
    generalize N.A = A at *; generalize N.n = n at *; generalize N.c = c at *
    generalize L.A = A2 at *; generalize L.n = n2 at *; generalize L.c = c2 at *
    go_enter Tryz.func75, Tryz.ntmps75
    go_wp2_with fail
    (first | refine name_world ?_ | refine (show (∀ W, W = _ → Calls _ _ _ W _) → Calls _ _ _ _ _ from fun h => h _ rfl) ?_); intro W1 hW1
    have g1 : Gr w W1 := by rw [hW1]; exact gr_auto
    have k1_0 : W1.cell? ⟨w.heap.size, 0, none⟩ = some (.slice A n c) := by rw [hW1]; first | (simp [go_sem, *]; done) | (refine Gr.at ?_ (by assumption); exact gr_auto)
    have b1_0 : w.heap.size < W1.heap.size := World.block_lt_of_cell? _ _ k1_0
    have k1_1 : W1.cell? ⟨w.heap.size, 1, none⟩ = some (.slice A2 n2 c2) := by rw [hW1]; first | (simp [go_sem, *]; done) | (refine Gr.at ?_ (by assumption); exact gr_auto)
    clear hW1
    refine (HV.out _ g1).mono ?_
    rintro e w2 ⟨rfl, hb2⟩
    have g2 := g1.trans hb2
    have k1_0 := Gr.at (w1 := w2) gr_auto k1_0; have k1_1 := Gr.at (w1 := w2) gr_auto k1_1
    go_wp2_with fail
    (first | refine name_world ?_ | refine (show (∀ W, W = _ → Calls _ _ _ W _) → Calls _ _ _ _ _ from fun h => h _ rfl) ?_); intro W3 hW3
    have g3 : Gr w W3 := by rw [hW3]; exact gr_auto
    have k3_0 : W3.cell? ⟨w.heap.size, 0, none⟩ = some (.slice A n c) := by rw [hW3]; first | (simp [go_sem, *]; done) | (refine Gr.at ?_ (by assumption); exact gr_auto)
    have b3_0 : w.heap.size < W3.heap.size := World.block_lt_of_cell? _ _ k3_0
    have k3_1 : W3.cell? ⟨w.heap.size, 1, none⟩ = some (.slice A2 n2 c2) := by rw [hW3]; first | (simp [go_sem, *]; done) | (refine Gr.at ?_ (by assumption); exact gr_auto)
    clear hW3
    have s3_0 : ∀ gw : GW W3, gw.1.cell? ⟨w.heap.size, 0, none⟩ = some (.slice A n c) := fun gw => Gr.at gw.2 k3_0
    have s3_1 : ∀ gw : GW W3, gw.1.cell? ⟨w.heap.size, 1, none⟩ = some (.slice A2 n2 c2) := fun gw => Gr.at gw.2 k3_1
    have HI4 := Lib.hid (fun gw : GW W3 => gw_call (HI.out gw.1 (g3.trans gw.2)))
    have HF4 := Lib.hid (fun gw : GW W3 => gw_call (HF.out gw.1))
    refine wp_region_gr (by kernel_rfl) (by kernel_rfl) ?_
    repeat (go_big_quiet_step ((first | (go_at_call 104; exact HI4.out _) | (go_at_call 103; exact HF4.out _))))
    refine wpQuiet_nil ?_
    intro w4 hb4
    clear s3_0 s3_1
    have g4 : Gr w w4 := g3.trans hb4
    have k3_0 := Gr.at hb4 k3_0
    have k3_1 := Gr.at hb4 k3_1
    go_wp2_with fail
    go_ret2
    exact ⟨rfl, gr_auto⟩
namespace Al
/-- What a volume and its net inflow tell: the volumes' change less the inflow. -/
def balD (V : Int → Int) (T : Nat → M) (I : Nat → Int) (j : Nat) : Int := V (T (j + 1)).lv - V (T j).lv - I j
def jumpIf (tol x : Int) (c : C) : List C := if tol < max x (-x) then [c] else []
def balS (d : Int → Int) (T : Nat → M) (I : Nat → Int) (tol : Int) (j : Nat) : List C := jumpIf tol (balD d T I j) (alm 5 [T j, T (j + 1)])
def balL (d : Int → Int) (T : Nat → M) (I : Nat → Int) (tol : Int) : Nat → List C
  | 0 => []
  | j + 1 => balL d T I tol j ++ balS d T I tol j
theorem balL_len (d : Int → Int) (T : Nat → M) (I : Nat → Int) (tol : Int) : ∀ n, (balL d T I tol n).length ≤ n
  | 0 => Nat.le_refl 0
  | n + 1 => by
    have := balL_len d T I tol n
    rw [balL, List.length_append]
    unfold balS jumpIf
    split <;> simp <;> omega
theorem balS_congr {d : Int → Int} {T T' : Nat → M} {I : Nat → Int} {tol : Int} {j : Nat} (h0 : T j = T' j) (h1 : T (j + 1) = T' (j + 1)) : balS d T I tol j = balS d T' I tol j := by unfold balS balD; rw [h0, h1]
theorem balL_congr {d : Int → Int} {T T' : Nat → M} {I : Nat → Int} {tol : Int} : ∀ {n : Nat}, (∀ j, j ≤ n → T j = T' j) → balL d T I tol n = balL d T' I tol n
  | 0, _ => rfl
  | n + 1, h => by rw [balL, balL, balL_congr fun j hj => h j (by omega), balS_congr (h n (by omega)) (h (n + 1) (by omega))]
/-- A number of an inflow, a tolerance out of range. -/
def rngB (I : Ba.SlI) (tol : Int) : Bool := Ba.any (fun i => !Ba.bet (I.X i) (-1125899906842624) 1125899906842624) I.n || !Ba.bet tol 0 1125899906842624
theorem mem_lst {s : SlM} {i : Nat} (h : i < s.n) : s.D i ∈ s.lst := List.mem_map.2 ⟨i, List.mem_range.2 h, rfl⟩
theorem lst_D {s t : SlM} (h : s.lst = t.lst) {i : Nat} (hi : i < s.n) : s.D i = t.D i := by
  have hl : s.n = t.n := by rw [← SlM.lst_len, h, SlM.lst_len]
  have h1 : s.lst[i]? = some (s.D i) := by unfold SlM.lst; simp [hi]
  have h2 : t.lst[i]? = some (t.D i) := by unfold SlM.lst; simp [hl ▸ hi]
  rw [h, h2] at h1
  exact (Option.some.inj h1).symm
end Al
theorem Ba.fstI_is {p : Nat → Bool} {n k : Nat} (h : Ba.fstI p n = (k : Int)) : k < n ∧ p k = true := by
  unfold Ba.fstI at h
  cases e : Ba.fst p n with
  | none => rw [e] at h; exact absurd h (by simp)
  | some i =>
    rw [e] at h
    obtain ⟨h1, h2, -⟩ := Ba.fst_some e
    have : i = k := Int.ofNat_inj.1 h
    subst this
    exact ⟨h1, h2⟩
theorem Ba.net_node {N : Ba.SlNode} {L : Ba.SlLink} (h : Ba.netB N L = true) {k : Nat} (hk : k < N.n) : Ba.rnode (N.D k) = true := by
  unfold Ba.netB at h
  simp only [Bool.and_eq_true] at h
  have := Ba.allB_at h.2.2.1 hk
  unfold Ba.nodeB at this
  rw [Bool.and_eq_true] at this
  exact this.1
set_option maxRecDepth 100000 in
set_option maxHeartbeats 4000000 in
theorem balf_any (x : Int) (w : World) : Calls Tryz.prog 77 #[.int .i64 x] w fun e w' => e = .returned (.bool (!Ba.bet x (-1125899906842624) 1125899906842624)) ∧ Gr w w' := by
  have HW := Lib.hid (fun W => awithin_any x (-1125899906842624) 1125899906842624 W)
  generalize Ba.bet x (-1125899906842624) 1125899906842624 = RES at *
  go_enter Tryz.func77, Tryz.ntmps77
  go_wp2_with fail
  refine (HW.out _).mono ?_
  rintro e w1 ⟨rfl, rfl⟩
  go_wp2_with fail
  go_ret
  exact ⟨rfl, gr_auto⟩
theorem balh_any (I : Ba.SlI) (w : World) (hI : I.At w) : Calls Tryz.prog 60 #[.slice I.A I.n I.c, .func (.func 77) #[] #[]] w fun e w' => e = .returned (.bool (Ba.any (fun i => !Ba.bet (I.X i) (-1125899906842624) 1125899906842624) I.n)) ∧ Gr w w' :=
  has_int 77 #[] I _ w hI (enter_of Tryz.func77 (by kernel_rfl) (by kernel_rfl)) fun i _ W _ => balf_any (I.X i) W
set_option maxRecDepth 100000 in
set_option maxHeartbeats 4000000 in
theorem bal_no (N : Ba.SlNode) (L : Ba.SlLink) (s : Al.SlM) (nd : ByteArray) (I : Ba.SlI) (tol : Int) (w : World) (hN : N.At w) (hL : L.At w) (h : s.At w) (hnd : nd.size ≤ 9223372036854775807) (hI : I.At w) (hv : (Ba.netB N L && s.vB) = false) : Calls Tryz.prog 41 #[Ba.netVal N L, .slice s.A s.n s.c, .string nd, .slice I.A I.n I.c, .int .i64 tol] w fun e w' => e = .returned (.tuple #[.slice none 0 0, .int .i64 1]) ∧ Gr w w' := by
  have HR := Lib.hid (fun W (hW : Gr w W) => aright_any N L s W (hN.gr hW) (hL.gr hW) (h.gr hW))
  rw [hv] at HR
  clear hN hL h hI hv hnd
  unfold Ba.netVal at *
  generalize N.A = nA at *; generalize N.n = nn at *; generalize N.c = nc at *; generalize L.A = lA at *; generalize L.n = ln at *; generalize L.c = lc at *
  generalize s.A = sA at *; generalize s.n = sn at *; generalize s.c = sc at *; generalize I.A = iA at *; generalize I.n = m at *; generalize I.c = ic at *
  go_enter Tryz.func41, Tryz.ntmps41
  go_wp2_with fail
  refine (HR.out _ gr_auto).mono ?_
  rintro e w1 ⟨rfl, hb⟩
  have g : Gr w w1 := gr_auto
  clear hb
  go_wp2_with fail
  go_ret2
  exact ⟨rfl, g⟩
set_option maxRecDepth 100000 in
set_option maxHeartbeats 4000000 in
theorem bal_name (N : Ba.SlNode) (L : Ba.SlLink) (s : Al.SlM) (nd : ByteArray) (I : Ba.SlI) (tol : Int) (w : World) (hN : N.At w) (hL : L.At w) (h : s.At w) (hnd : nd.size ≤ 9223372036854775807) (hI : I.At w) (hnb : Ba.netB N L = true) (hv : s.vB = true) (hx : Ba.nix N nd < 0) : Calls Tryz.prog 41 #[Ba.netVal N L, .slice s.A s.n s.c, .string nd, .slice I.A I.n I.c, .int .i64 tol] w fun e w' => e = .returned (.tuple #[.slice none 0 0, .int .i64 9]) ∧ Gr w w' := by
  have HR := Lib.hid (fun W (hW : Gr w W) => aright_any N L s W (hN.gr hW) (hL.gr hW) (h.gr hW))
  rw [hnb, hv] at HR
  have HNo := Lib.hid (fun W (hW : Gr w W) => nodeno_any N L nd W (hN.gr hW) (hL.gr hW))
  rw [hnb, if_pos rfl, if_pos rfl] at HNo
  rw [show Ba.fndE (Ba.nix N nd) = 9 from if_pos hx, show Ba.fnd (Ba.nix N nd) = 0 from if_pos hx] at HNo
  clear hN hL h hI hv hnd hnb hx
  unfold Ba.netVal at *
  generalize N.A = nA at *; generalize N.n = nn at *; generalize N.c = nc at *; generalize L.A = lA at *; generalize L.n = ln at *; generalize L.c = lc at *
  generalize s.A = sA at *; generalize s.n = sn at *; generalize s.c = sc at *; generalize I.A = iA at *; generalize I.n = m at *; generalize I.c = ic at *
  go_enter Tryz.func41, Tryz.ntmps41
  go_wp2_with fail
  refine (HR.out _ gr_auto).mono ?_
  rintro e w1 ⟨rfl, hb⟩
  have g : Gr w w1 := gr_auto
  have q0 := Gr.at (show Gr _ w1 from hb) (show World.cell? _ ⟨w.heap.size, 0, none⟩ = some (.slice nA nn nc) from by simp [go_sem])
  have q1 := Gr.at (show Gr _ w1 from hb) (show World.cell? _ ⟨w.heap.size, 1, none⟩ = some (.slice lA ln lc) from by simp [go_sem])
  clear hb HR
  go_wp2_with fail
  refine (HNo.out _ g).mono ?_
  rintro e w2 ⟨rfl, hb⟩
  replace q0 := Gr.at hb q0
  replace q1 := Gr.at hb q1
  replace g := g.trans hb
  clear hb HNo
  go_wp2_with fail
  go_ret2
  exact ⟨rfl, g⟩
set_option maxRecDepth 100000 in
set_option maxHeartbeats 4000000 in
theorem bal_kind (N : Ba.SlNode) (L : Ba.SlLink) (s : Al.SlM) (nd : ByteArray) (I : Ba.SlI) (tol : Int) (w : World) (hN : N.At w) (hL : L.At w) (h : s.At w) (hnd : nd.size ≤ 9223372036854775807) (hI : I.At w) (hnb : Ba.netB N L = true) (hv : s.vB = true) (k : Nat) (hx : Ba.nix N nd = (k : Int)) (hk : (N.D k).kd = 3) : Calls Tryz.prog 41 #[Ba.netVal N L, .slice s.A s.n s.c, .string nd, .slice I.A I.n I.c, .int .i64 tol] w fun e w' => e = .returned (.tuple #[.slice none 0 0, .int .i64 11]) ∧ Gr w w' := by
  have HR := Lib.hid (fun W (hW : Gr w W) => aright_any N L s W (hN.gr hW) (hL.gr hW) (h.gr hW))
  rw [hnb, hv] at HR
  have HNo := Lib.hid (fun W (hW : Gr w W) => nodeno_any N L nd W (hN.gr hW) (hL.gr hW))
  rw [hnb, if_pos rfl, if_pos rfl] at HNo
  rw [hx, show Ba.fndE (k : Int) = 0 from if_neg (by omega), show Ba.fnd (k : Int) = (k : Int) from if_neg (by omega)] at HNo
  have hkn := (Ba.fstI_is hx).1
  have hrn := Ba.net_node hnb hkn
  have hNA := hN.hA (by omega)
  have hNc := hN.hc; have hNb := hN.hb
  obtain ⟨hnc, hno⟩ := hN.hD k hkn
  obtain ⟨n0, n1, n2, n3, n4, n5, n6, n7, n8⟩ := hnc
  have HB := Lib.hid (fun W (hW : Gr w W) => bynode_any s W (h.gr hW) hv)
  have hvl := (Al.vB_iff s).1 hv
  have hTl : (Al.ofN s.lst nd).length ≤ 10000 := Nat.le_trans List.filter_sublist.length_le (by rw [(Al.srtM_perm s.lst).length_eq]; exact hvl.1)
  have HOk := Lib.hid (show ∀ m ∈ Al.ofN s.lst nd, m.Ok from fun m hm => by
    obtain ⟨i, hi, rfl⟩ := List.mem_map.1 ((Al.srtM_perm s.lst).mem_iff.1 (List.mem_filter.1 hm).1)
    exact (h.hD i (List.mem_range.1 hi)).2)
  have HL2 := Lib.hid (show Al.own (Al.srtM s.lst) nd = Al.ofN s.lst nd from rfl)
  obtain ⟨kl, hkl⟩ := key_str nd hnd
  obtain ⟨D, hD⟩ : ∃ D, N.D k = D := ⟨_, rfl⟩
  rw [hD] at n0 n1 n2 n3 n4 n5 n6 n7 n8
  rw [hD] at hk
  clear hD
  generalize D.sh.A = sha at *; generalize D.sh.n = shn at *; generalize D.sh.c = shc at *
  cases D with | mk nm kd ax ay iv gr sh pr rs =>
  simp only [] at *
  clear hN hL hI hv hnd hnb hx hno hrn hvl
  unfold Ba.netVal at *
  cases N with | mk nA nn nc nb no nD =>
  cases L with | mk lA ln lc lb lo lD =>
  simp only [] at *
  subst hNA
  have t0 : (kd == 3) = true := beq_iff_eq.2 hk
  clear hk
  generalize I.A = iA at *; generalize I.n = m at *; generalize I.c = ic at *
  go_enter Tryz.func41, Tryz.ntmps41
  go_wp2_with fail
  refine (HR.out _ gr_auto).mono ?_
  rintro e w1 ⟨rfl, hb⟩
  have g : Gr w w1 := gr_auto
  have q0 := Gr.at (show Gr _ w1 from hb) (show World.cell? _ ⟨w.heap.size, 0, none⟩ = some (.slice (some ⟨nb, no, none⟩) nn nc) from by simp [go_sem])
  have q1 := Gr.at (show Gr _ w1 from hb) (show World.cell? _ ⟨w.heap.size, 1, none⟩ = some (.slice lA ln lc) from by simp [go_sem])
  clear hb HR
  go_wp2_with fail
  refine (HNo.out _ g).mono ?_
  rintro e w2 ⟨rfl, hb⟩
  replace q0 := Gr.at hb q0
  replace q1 := Gr.at hb q1
  replace g := g.trans hb
  clear hb HNo
  have ik0 : (0 : Int) ≤ (k : Int) := by omega
  have ik1 : (k : Int) < (nn : Int) := by omega
  have p0 := Gr.at g n0; have p1 := Gr.at g n1; have p2 := Gr.at g n2; have p3 := Gr.at g n3; have p4 := Gr.at g n4; have p5 := Gr.at g n5; have p6 := Gr.at g n6; have p7 := Gr.at g n7; have p8 := Gr.at g n8
  clear n0 n1 n2 n3 n4 n5 n6 n7 n8
  have bl0 := World.block_lt_of_cell? _ _ q0; have bl1 := World.block_lt_of_cell? _ _ p0
  simp only [] at bl0 bl1
  go_upto_region 7 with fail
  refine name_world ?_
  intro W3 hW3
  have g3 : Gr w2 W3 := by rw [hW3]; exact gr_auto
  have x0 : W3.cell? ⟨w2.heap.size, 0, none⟩ = some (.string nm) := by rw [hW3]; simp [go_sem]
  have x1 : W3.cell? ⟨w2.heap.size, 1, none⟩ = some (.int .i64 kd) := by rw [hW3]; simp [go_sem]
  have x2 : W3.cell? ⟨w2.heap.size, 2, none⟩ = some (.int .i64 ax) := by rw [hW3]; simp [go_sem]
  have x3 : W3.cell? ⟨w2.heap.size, 3, none⟩ = some (.int .i64 ay) := by rw [hW3]; simp [go_sem]
  have x4 : W3.cell? ⟨w2.heap.size, 4, none⟩ = some (.int .i64 iv) := by rw [hW3]; simp [go_sem]
  have x5 : W3.cell? ⟨w2.heap.size, 5, none⟩ = some (.int .i64 gr) := by rw [hW3]; simp [go_sem]
  have x6 : W3.cell? ⟨w2.heap.size, 6, none⟩ = some (.slice sha shn shc) := by rw [hW3]; simp [go_sem]
  have x7 : W3.cell? ⟨w2.heap.size, 7, none⟩ = some (.bool pr) := by rw [hW3]; simp [go_sem]
  have x8 : W3.cell? ⟨w2.heap.size, 8, none⟩ = some (.int .i64 rs) := by rw [hW3]; simp [go_sem]
  obtain ⟨BX, hBX⟩ : ∃ BX, BX = w2.heap.size := ⟨_, rfl⟩
  rw [← hBX] at x0 x1 x2 x3 x4 x5 x6 x7 x8
  try rw [← hBX]
  replace g := g.trans g3
  clear hW3 hBX g3 p0 p1 p2 p3 p4 p5 p6 p7 p8 q0 q1 bl0 bl1
  go_wp2_with fail
  refine (HB.out _ g).mono ?_
  rintro e w4 ⟨MB, nE, f, rfl, hmap, hrows, hMB, hb⟩
  replace x0 := Gr.at hb x0
  replace x1 := Gr.at hb x1
  replace x2 := Gr.at hb x2
  replace x3 := Gr.at hb x3
  replace x4 := Gr.at hb x4
  replace x5 := Gr.at hb x5
  replace x6 := Gr.at hb x6
  replace x7 := Gr.at hb x7
  replace x8 := Gr.at hb x8
  have hlk := hmap.look false keyed_str Tryz.underlying102 (zero_msgs w4) hkl
  simp only [Bool.false_eq_true, if_false] at hlk
  have hro := hrows.2 nd
  rw [HL2.out] at hro
  obtain ⟨t, hv4, ht1, ht2, -, -⟩ := Al.ownM_sl hro (fun m hm => HOk.out m hm)
  rw [hv4] at hlk
  have HT1 := Lib.hid ht1; have HT2 := Lib.hid ht2
  have htn : t.n ≤ 10000 := by rw [← Al.SlM.lst_len, ht2]; exact hTl
  have htl : t.n = (Al.ofN s.lst nd).length := by rw [← ht2, Al.SlM.lst_len]
  replace g := g.trans hb
  have hbx := World.block_lt_of_cell? _ _ x0
  simp only [] at hbx
  clear hb hmap hrows hro hv4 ht1 ht2 HB hkl HL2 HOk
  clear htl
  generalize s.A = sA at *; generalize s.n = sn at *; generalize s.c = sc at *
  clear h hTl HT2
  go_wp2_with fail
  go_ret2
  exact ⟨rfl, g⟩
set_option maxRecDepth 100000 in
set_option maxHeartbeats 4000000 in
theorem bal_size (N : Ba.SlNode) (L : Ba.SlLink) (s : Al.SlM) (nd : ByteArray) (I : Ba.SlI) (tol : Int) (w : World) (hN : N.At w) (hL : L.At w) (h : s.At w) (hnd : nd.size ≤ 9223372036854775807) (hI : I.At w) (hnb : Ba.netB N L = true) (hv : s.vB = true) (k : Nat) (hx : Ba.nix N nd = (k : Int)) (hk : (N.D k).kd ≠ 3) (hm : I.n ≠ (Al.ofN s.lst nd).length - 1) : Calls Tryz.prog 41 #[Ba.netVal N L, .slice s.A s.n s.c, .string nd, .slice I.A I.n I.c, .int .i64 tol] w fun e w' => e = .returned (.tuple #[.slice none 0 0, .int .i64 3]) ∧ Gr w w' := by
  have HR := Lib.hid (fun W (hW : Gr w W) => aright_any N L s W (hN.gr hW) (hL.gr hW) (h.gr hW))
  rw [hnb, hv] at HR
  have HNo := Lib.hid (fun W (hW : Gr w W) => nodeno_any N L nd W (hN.gr hW) (hL.gr hW))
  rw [hnb, if_pos rfl, if_pos rfl] at HNo
  rw [hx, show Ba.fndE (k : Int) = 0 from if_neg (by omega), show Ba.fnd (k : Int) = (k : Int) from if_neg (by omega)] at HNo
  have hkn := (Ba.fstI_is hx).1
  have hrn := Ba.net_node hnb hkn
  have hNA := hN.hA (by omega)
  have hNc := hN.hc; have hNb := hN.hb
  obtain ⟨hnc, hno⟩ := hN.hD k hkn
  obtain ⟨n0, n1, n2, n3, n4, n5, n6, n7, n8⟩ := hnc
  have HB := Lib.hid (fun W (hW : Gr w W) => bynode_any s W (h.gr hW) hv)
  have hvl := (Al.vB_iff s).1 hv
  have hTl : (Al.ofN s.lst nd).length ≤ 10000 := Nat.le_trans List.filter_sublist.length_le (by rw [(Al.srtM_perm s.lst).length_eq]; exact hvl.1)
  have HOk := Lib.hid (show ∀ m ∈ Al.ofN s.lst nd, m.Ok from fun m hm => by
    obtain ⟨i, hi, rfl⟩ := List.mem_map.1 ((Al.srtM_perm s.lst).mem_iff.1 (List.mem_filter.1 hm).1)
    exact (h.hD i (List.mem_range.1 hi)).2)
  have HL2 := Lib.hid (show Al.own (Al.srtM s.lst) nd = Al.ofN s.lst nd from rfl)
  obtain ⟨kl, hkl⟩ := key_str nd hnd
  obtain ⟨D, hD⟩ : ∃ D, N.D k = D := ⟨_, rfl⟩
  rw [hD] at n0 n1 n2 n3 n4 n5 n6 n7 n8
  rw [hD] at hk
  clear hD
  generalize D.sh.A = sha at *; generalize D.sh.n = shn at *; generalize D.sh.c = shc at *
  cases D with | mk nm kd ax ay iv gr sh pr rs =>
  simp only [] at *
  have hic := hI.hc; have hib := hI.hb
  clear hN hL hI hv hnd hnb hx hno hrn hvl
  unfold Ba.netVal at *
  cases N with | mk nA nn nc nb no nD =>
  cases L with | mk lA ln lc lb lo lD =>
  simp only [] at *
  subst hNA
  have t0 : (kd == 3) = false := beq_eq_false_iff_ne.2 hk
  clear hk
  generalize I.A = iA at *; generalize I.n = m at *; generalize I.c = ic at *
  go_enter Tryz.func41, Tryz.ntmps41
  go_wp2_with fail
  refine (HR.out _ gr_auto).mono ?_
  rintro e w1 ⟨rfl, hb⟩
  have g : Gr w w1 := gr_auto
  have q0 := Gr.at (show Gr _ w1 from hb) (show World.cell? _ ⟨w.heap.size, 0, none⟩ = some (.slice (some ⟨nb, no, none⟩) nn nc) from by simp [go_sem])
  have q1 := Gr.at (show Gr _ w1 from hb) (show World.cell? _ ⟨w.heap.size, 1, none⟩ = some (.slice lA ln lc) from by simp [go_sem])
  clear hb HR
  go_wp2_with fail
  refine (HNo.out _ g).mono ?_
  rintro e w2 ⟨rfl, hb⟩
  replace q0 := Gr.at hb q0
  replace q1 := Gr.at hb q1
  replace g := g.trans hb
  clear hb HNo
  have ik0 : (0 : Int) ≤ (k : Int) := by omega
  have ik1 : (k : Int) < (nn : Int) := by omega
  have p0 := Gr.at g n0; have p1 := Gr.at g n1; have p2 := Gr.at g n2; have p3 := Gr.at g n3; have p4 := Gr.at g n4; have p5 := Gr.at g n5; have p6 := Gr.at g n6; have p7 := Gr.at g n7; have p8 := Gr.at g n8
  clear n0 n1 n2 n3 n4 n5 n6 n7 n8
  have bl0 := World.block_lt_of_cell? _ _ q0; have bl1 := World.block_lt_of_cell? _ _ p0
  simp only [] at bl0 bl1
  go_upto_region 7 with fail
  refine name_world ?_
  intro W3 hW3
  have g3 : Gr w2 W3 := by rw [hW3]; exact gr_auto
  have x0 : W3.cell? ⟨w2.heap.size, 0, none⟩ = some (.string nm) := by rw [hW3]; simp [go_sem]
  have x1 : W3.cell? ⟨w2.heap.size, 1, none⟩ = some (.int .i64 kd) := by rw [hW3]; simp [go_sem]
  have x2 : W3.cell? ⟨w2.heap.size, 2, none⟩ = some (.int .i64 ax) := by rw [hW3]; simp [go_sem]
  have x3 : W3.cell? ⟨w2.heap.size, 3, none⟩ = some (.int .i64 ay) := by rw [hW3]; simp [go_sem]
  have x4 : W3.cell? ⟨w2.heap.size, 4, none⟩ = some (.int .i64 iv) := by rw [hW3]; simp [go_sem]
  have x5 : W3.cell? ⟨w2.heap.size, 5, none⟩ = some (.int .i64 gr) := by rw [hW3]; simp [go_sem]
  have x6 : W3.cell? ⟨w2.heap.size, 6, none⟩ = some (.slice sha shn shc) := by rw [hW3]; simp [go_sem]
  have x7 : W3.cell? ⟨w2.heap.size, 7, none⟩ = some (.bool pr) := by rw [hW3]; simp [go_sem]
  have x8 : W3.cell? ⟨w2.heap.size, 8, none⟩ = some (.int .i64 rs) := by rw [hW3]; simp [go_sem]
  obtain ⟨BX, hBX⟩ : ∃ BX, BX = w2.heap.size := ⟨_, rfl⟩
  rw [← hBX] at x0 x1 x2 x3 x4 x5 x6 x7 x8
  try rw [← hBX]
  replace g := g.trans g3
  clear hW3 hBX g3 p0 p1 p2 p3 p4 p5 p6 p7 p8 q0 q1 bl0 bl1
  go_wp2_with fail
  refine (HB.out _ g).mono ?_
  rintro e w4 ⟨MB, nE, f, rfl, hmap, hrows, hMB, hb⟩
  replace x0 := Gr.at hb x0
  replace x1 := Gr.at hb x1
  replace x2 := Gr.at hb x2
  replace x3 := Gr.at hb x3
  replace x4 := Gr.at hb x4
  replace x5 := Gr.at hb x5
  replace x6 := Gr.at hb x6
  replace x7 := Gr.at hb x7
  replace x8 := Gr.at hb x8
  have hlk := hmap.look false keyed_str Tryz.underlying102 (zero_msgs w4) hkl
  simp only [Bool.false_eq_true, if_false] at hlk
  have hro := hrows.2 nd
  rw [HL2.out] at hro
  obtain ⟨t, hv4, ht1, ht2, -, -⟩ := Al.ownM_sl hro (fun m hm => HOk.out m hm)
  rw [hv4] at hlk
  have HT1 := Lib.hid ht1; have HT2 := Lib.hid ht2
  have htn : t.n ≤ 10000 := by rw [← Al.SlM.lst_len, ht2]; exact hTl
  have htl : t.n = (Al.ofN s.lst nd).length := by rw [← ht2, Al.SlM.lst_len]
  replace g := g.trans hb
  have hbx := World.block_lt_of_cell? _ _ x0
  simp only [] at hbx
  clear hb hmap hrows hro hv4 ht1 ht2 HB hkl HL2 HOk
  have hmt : m ≠ t.n - 1 := by rw [htl]; exact hm
  have e0 : IntKind.i64.wrap ((t.n : Int) - 1) = (t.n : Int) - 1 := wrap_in _ (by omega)
  have e1 : ((m : Int) != max 0 ((t.n : Int) - 1)) = true := bne_iff_ne.2 (by omega)
  clear htl hm hTl HT2 hmt
  generalize s.A = sA at *; generalize s.n = sn at *; generalize s.c = sc at *
  clear h
  go_wp2_with fail
  go_ret2
  exact ⟨rfl, g⟩
set_option maxRecDepth 100000 in
set_option maxHeartbeats 4000000 in
theorem bal_rng1 (N : Ba.SlNode) (L : Ba.SlLink) (s : Al.SlM) (nd : ByteArray) (I : Ba.SlI) (tol : Int) (w : World) (hN : N.At w) (hL : L.At w) (h : s.At w) (hnd : nd.size ≤ 9223372036854775807) (hI : I.At w) (hnb : Ba.netB N L = true) (hv : s.vB = true) (k : Nat) (hx : Ba.nix N nd = (k : Int)) (hk : (N.D k).kd ≠ 3) (hm : I.n = (Al.ofN s.lst nd).length - 1) (hr : Ba.any (fun i => !Ba.bet (I.X i) (-1125899906842624) 1125899906842624) I.n = true) : Calls Tryz.prog 41 #[Ba.netVal N L, .slice s.A s.n s.c, .string nd, .slice I.A I.n I.c, .int .i64 tol] w fun e w' => e = .returned (.tuple #[.slice none 0 0, .int .i64 2]) ∧ Gr w w' := by
  have HR := Lib.hid (fun W (hW : Gr w W) => aright_any N L s W (hN.gr hW) (hL.gr hW) (h.gr hW))
  rw [hnb, hv] at HR
  have HNo := Lib.hid (fun W (hW : Gr w W) => nodeno_any N L nd W (hN.gr hW) (hL.gr hW))
  rw [hnb, if_pos rfl, if_pos rfl] at HNo
  rw [hx, show Ba.fndE (k : Int) = 0 from if_neg (by omega), show Ba.fnd (k : Int) = (k : Int) from if_neg (by omega)] at HNo
  have hkn := (Ba.fstI_is hx).1
  have hrn := Ba.net_node hnb hkn
  have hNA := hN.hA (by omega)
  have hNc := hN.hc; have hNb := hN.hb
  obtain ⟨hnc, hno⟩ := hN.hD k hkn
  obtain ⟨n0, n1, n2, n3, n4, n5, n6, n7, n8⟩ := hnc
  have HB := Lib.hid (fun W (hW : Gr w W) => bynode_any s W (h.gr hW) hv)
  have hvl := (Al.vB_iff s).1 hv
  have hTl : (Al.ofN s.lst nd).length ≤ 10000 := Nat.le_trans List.filter_sublist.length_le (by rw [(Al.srtM_perm s.lst).length_eq]; exact hvl.1)
  have HOk := Lib.hid (show ∀ m ∈ Al.ofN s.lst nd, m.Ok from fun m hm => by
    obtain ⟨i, hi, rfl⟩ := List.mem_map.1 ((Al.srtM_perm s.lst).mem_iff.1 (List.mem_filter.1 hm).1)
    exact (h.hD i (List.mem_range.1 hi)).2)
  have HL2 := Lib.hid (show Al.own (Al.srtM s.lst) nd = Al.ofN s.lst nd from rfl)
  obtain ⟨kl, hkl⟩ := key_str nd hnd
  obtain ⟨D, hD⟩ : ∃ D, N.D k = D := ⟨_, rfl⟩
  rw [hD] at n0 n1 n2 n3 n4 n5 n6 n7 n8
  rw [hD] at hk
  clear hD
  generalize D.sh.A = sha at *; generalize D.sh.n = shn at *; generalize D.sh.c = shc at *
  cases D with | mk nm kd ax ay iv gr sh pr rs =>
  simp only [] at *
  have hic := hI.hc; have hib := hI.hb
  have HQ := Lib.hid (fun W (hW : Gr w W) => balh_any I W (hI.gr hW))
  rw [hr] at HQ
  clear hN hL hI hv hnd hnb hx hno hrn hvl hr
  have HM := Lib.hid hm
  clear hm
  unfold Ba.netVal at *
  cases N with | mk nA nn nc nb no nD =>
  cases L with | mk lA ln lc lb lo lD =>
  simp only [] at *
  subst hNA
  have t0 : (kd == 3) = false := beq_eq_false_iff_ne.2 hk
  clear hk
  generalize I.A = iA at *; generalize I.n = m at *; generalize I.c = ic at *
  go_enter Tryz.func41, Tryz.ntmps41
  go_wp2_with fail
  refine (HR.out _ gr_auto).mono ?_
  rintro e w1 ⟨rfl, hb⟩
  have g : Gr w w1 := gr_auto
  have q0 := Gr.at (show Gr _ w1 from hb) (show World.cell? _ ⟨w.heap.size, 0, none⟩ = some (.slice (some ⟨nb, no, none⟩) nn nc) from by simp [go_sem])
  have q1 := Gr.at (show Gr _ w1 from hb) (show World.cell? _ ⟨w.heap.size, 1, none⟩ = some (.slice lA ln lc) from by simp [go_sem])
  clear hb HR
  go_wp2_with fail
  refine (HNo.out _ g).mono ?_
  rintro e w2 ⟨rfl, hb⟩
  replace q0 := Gr.at hb q0
  replace q1 := Gr.at hb q1
  replace g := g.trans hb
  clear hb HNo
  have ik0 : (0 : Int) ≤ (k : Int) := by omega
  have ik1 : (k : Int) < (nn : Int) := by omega
  have p0 := Gr.at g n0; have p1 := Gr.at g n1; have p2 := Gr.at g n2; have p3 := Gr.at g n3; have p4 := Gr.at g n4; have p5 := Gr.at g n5; have p6 := Gr.at g n6; have p7 := Gr.at g n7; have p8 := Gr.at g n8
  clear n0 n1 n2 n3 n4 n5 n6 n7 n8
  have bl0 := World.block_lt_of_cell? _ _ q0; have bl1 := World.block_lt_of_cell? _ _ p0
  simp only [] at bl0 bl1
  go_upto_region 7 with fail
  refine name_world ?_
  intro W3 hW3
  have g3 : Gr w2 W3 := by rw [hW3]; exact gr_auto
  have x0 : W3.cell? ⟨w2.heap.size, 0, none⟩ = some (.string nm) := by rw [hW3]; simp [go_sem]
  have x1 : W3.cell? ⟨w2.heap.size, 1, none⟩ = some (.int .i64 kd) := by rw [hW3]; simp [go_sem]
  have x2 : W3.cell? ⟨w2.heap.size, 2, none⟩ = some (.int .i64 ax) := by rw [hW3]; simp [go_sem]
  have x3 : W3.cell? ⟨w2.heap.size, 3, none⟩ = some (.int .i64 ay) := by rw [hW3]; simp [go_sem]
  have x4 : W3.cell? ⟨w2.heap.size, 4, none⟩ = some (.int .i64 iv) := by rw [hW3]; simp [go_sem]
  have x5 : W3.cell? ⟨w2.heap.size, 5, none⟩ = some (.int .i64 gr) := by rw [hW3]; simp [go_sem]
  have x6 : W3.cell? ⟨w2.heap.size, 6, none⟩ = some (.slice sha shn shc) := by rw [hW3]; simp [go_sem]
  have x7 : W3.cell? ⟨w2.heap.size, 7, none⟩ = some (.bool pr) := by rw [hW3]; simp [go_sem]
  have x8 : W3.cell? ⟨w2.heap.size, 8, none⟩ = some (.int .i64 rs) := by rw [hW3]; simp [go_sem]
  obtain ⟨BX, hBX⟩ : ∃ BX, BX = w2.heap.size := ⟨_, rfl⟩
  rw [← hBX] at x0 x1 x2 x3 x4 x5 x6 x7 x8
  try rw [← hBX]
  replace g := g.trans g3
  clear hW3 hBX g3 p0 p1 p2 p3 p4 p5 p6 p7 p8 q0 q1 bl0 bl1
  go_wp2_with fail
  refine (HB.out _ g).mono ?_
  rintro e w4 ⟨MB, nE, f, rfl, hmap, hrows, hMB, hb⟩
  replace x0 := Gr.at hb x0
  replace x1 := Gr.at hb x1
  replace x2 := Gr.at hb x2
  replace x3 := Gr.at hb x3
  replace x4 := Gr.at hb x4
  replace x5 := Gr.at hb x5
  replace x6 := Gr.at hb x6
  replace x7 := Gr.at hb x7
  replace x8 := Gr.at hb x8
  have hlk := hmap.look false keyed_str Tryz.underlying102 (zero_msgs w4) hkl
  simp only [Bool.false_eq_true, if_false] at hlk
  have hro := hrows.2 nd
  rw [HL2.out] at hro
  obtain ⟨t, hv4, ht1, ht2, -, -⟩ := Al.ownM_sl hro (fun m hm => HOk.out m hm)
  rw [hv4] at hlk
  have HT1 := Lib.hid ht1; have HT2 := Lib.hid ht2
  have htn : t.n ≤ 10000 := by rw [← Al.SlM.lst_len, ht2]; exact hTl
  have htl : t.n = (Al.ofN s.lst nd).length := by rw [← ht2, Al.SlM.lst_len]
  replace g := g.trans hb
  have hbx := World.block_lt_of_cell? _ _ x0
  simp only [] at hbx
  clear hb hmap hrows hro hv4 ht1 ht2 HB hkl HL2 HOk
  have hmt : m = t.n - 1 := by rw [htl]; exact HM.out
  have e0 : IntKind.i64.wrap ((t.n : Int) - 1) = (t.n : Int) - 1 := wrap_in _ (by omega)
  have e1 : ((m : Int) != max 0 ((t.n : Int) - 1)) = false := bne_eq_false_iff_eq.2 (by omega)
  clear htl HM hTl HT2 hmt
  generalize s.A = sA at *; generalize s.n = sn at *; generalize s.c = sc at *
  clear h
  go_wp2_with fail
  refine (HQ.out _ g).mono ?_
  rintro e w5 ⟨rfl, hb⟩
  replace g := g.trans hb
  clear hb HQ
  go_wp2_with fail
  go_ret2
  exact ⟨rfl, g⟩
set_option maxRecDepth 100000 in
set_option maxHeartbeats 4000000 in
theorem bal_rng2 (N : Ba.SlNode) (L : Ba.SlLink) (s : Al.SlM) (nd : ByteArray) (I : Ba.SlI) (tol : Int) (w : World) (hN : N.At w) (hL : L.At w) (h : s.At w) (hnd : nd.size ≤ 9223372036854775807) (hI : I.At w) (hnb : Ba.netB N L = true) (hv : s.vB = true) (k : Nat) (hx : Ba.nix N nd = (k : Int)) (hk : (N.D k).kd ≠ 3) (hm : I.n = (Al.ofN s.lst nd).length - 1) (hr : Ba.any (fun i => !Ba.bet (I.X i) (-1125899906842624) 1125899906842624) I.n = false) (ht : Ba.bet tol 0 1125899906842624 = false) : Calls Tryz.prog 41 #[Ba.netVal N L, .slice s.A s.n s.c, .string nd, .slice I.A I.n I.c, .int .i64 tol] w fun e w' => e = .returned (.tuple #[.slice none 0 0, .int .i64 2]) ∧ Gr w w' := by
  have HR := Lib.hid (fun W (hW : Gr w W) => aright_any N L s W (hN.gr hW) (hL.gr hW) (h.gr hW))
  rw [hnb, hv] at HR
  have HNo := Lib.hid (fun W (hW : Gr w W) => nodeno_any N L nd W (hN.gr hW) (hL.gr hW))
  rw [hnb, if_pos rfl, if_pos rfl] at HNo
  rw [hx, show Ba.fndE (k : Int) = 0 from if_neg (by omega), show Ba.fnd (k : Int) = (k : Int) from if_neg (by omega)] at HNo
  have hkn := (Ba.fstI_is hx).1
  have hrn := Ba.net_node hnb hkn
  have hNA := hN.hA (by omega)
  have hNc := hN.hc; have hNb := hN.hb
  obtain ⟨hnc, hno⟩ := hN.hD k hkn
  obtain ⟨n0, n1, n2, n3, n4, n5, n6, n7, n8⟩ := hnc
  have HB := Lib.hid (fun W (hW : Gr w W) => bynode_any s W (h.gr hW) hv)
  have hvl := (Al.vB_iff s).1 hv
  have hTl : (Al.ofN s.lst nd).length ≤ 10000 := Nat.le_trans List.filter_sublist.length_le (by rw [(Al.srtM_perm s.lst).length_eq]; exact hvl.1)
  have HOk := Lib.hid (show ∀ m ∈ Al.ofN s.lst nd, m.Ok from fun m hm => by
    obtain ⟨i, hi, rfl⟩ := List.mem_map.1 ((Al.srtM_perm s.lst).mem_iff.1 (List.mem_filter.1 hm).1)
    exact (h.hD i (List.mem_range.1 hi)).2)
  have HL2 := Lib.hid (show Al.own (Al.srtM s.lst) nd = Al.ofN s.lst nd from rfl)
  obtain ⟨kl, hkl⟩ := key_str nd hnd
  obtain ⟨D, hD⟩ : ∃ D, N.D k = D := ⟨_, rfl⟩
  rw [hD] at n0 n1 n2 n3 n4 n5 n6 n7 n8
  rw [hD] at hk
  clear hD
  generalize D.sh.A = sha at *; generalize D.sh.n = shn at *; generalize D.sh.c = shc at *
  cases D with | mk nm kd ax ay iv gr sh pr rs =>
  simp only [] at *
  have hic := hI.hc; have hib := hI.hb
  have HQ := Lib.hid (fun W (hW : Gr w W) => balh_any I W (hI.gr hW))
  rw [hr] at HQ
  have HWt := Lib.hid (fun W => awithin_any tol 0 1125899906842624 W)
  rw [ht] at HWt
  clear hN hL hI hv hnd hnb hx hno hrn hvl hr ht
  have HM := Lib.hid hm
  clear hm
  unfold Ba.netVal at *
  cases N with | mk nA nn nc nb no nD =>
  cases L with | mk lA ln lc lb lo lD =>
  simp only [] at *
  subst hNA
  have t0 : (kd == 3) = false := beq_eq_false_iff_ne.2 hk
  clear hk
  generalize I.A = iA at *; generalize I.n = m at *; generalize I.c = ic at *
  go_enter Tryz.func41, Tryz.ntmps41
  go_wp2_with fail
  refine (HR.out _ gr_auto).mono ?_
  rintro e w1 ⟨rfl, hb⟩
  have g : Gr w w1 := gr_auto
  have q0 := Gr.at (show Gr _ w1 from hb) (show World.cell? _ ⟨w.heap.size, 0, none⟩ = some (.slice (some ⟨nb, no, none⟩) nn nc) from by simp [go_sem])
  have q1 := Gr.at (show Gr _ w1 from hb) (show World.cell? _ ⟨w.heap.size, 1, none⟩ = some (.slice lA ln lc) from by simp [go_sem])
  clear hb HR
  go_wp2_with fail
  refine (HNo.out _ g).mono ?_
  rintro e w2 ⟨rfl, hb⟩
  replace q0 := Gr.at hb q0
  replace q1 := Gr.at hb q1
  replace g := g.trans hb
  clear hb HNo
  have ik0 : (0 : Int) ≤ (k : Int) := by omega
  have ik1 : (k : Int) < (nn : Int) := by omega
  have p0 := Gr.at g n0; have p1 := Gr.at g n1; have p2 := Gr.at g n2; have p3 := Gr.at g n3; have p4 := Gr.at g n4; have p5 := Gr.at g n5; have p6 := Gr.at g n6; have p7 := Gr.at g n7; have p8 := Gr.at g n8
  clear n0 n1 n2 n3 n4 n5 n6 n7 n8
  have bl0 := World.block_lt_of_cell? _ _ q0; have bl1 := World.block_lt_of_cell? _ _ p0
  simp only [] at bl0 bl1
  go_upto_region 7 with fail
  refine name_world ?_
  intro W3 hW3
  have g3 : Gr w2 W3 := by rw [hW3]; exact gr_auto
  have x0 : W3.cell? ⟨w2.heap.size, 0, none⟩ = some (.string nm) := by rw [hW3]; simp [go_sem]
  have x1 : W3.cell? ⟨w2.heap.size, 1, none⟩ = some (.int .i64 kd) := by rw [hW3]; simp [go_sem]
  have x2 : W3.cell? ⟨w2.heap.size, 2, none⟩ = some (.int .i64 ax) := by rw [hW3]; simp [go_sem]
  have x3 : W3.cell? ⟨w2.heap.size, 3, none⟩ = some (.int .i64 ay) := by rw [hW3]; simp [go_sem]
  have x4 : W3.cell? ⟨w2.heap.size, 4, none⟩ = some (.int .i64 iv) := by rw [hW3]; simp [go_sem]
  have x5 : W3.cell? ⟨w2.heap.size, 5, none⟩ = some (.int .i64 gr) := by rw [hW3]; simp [go_sem]
  have x6 : W3.cell? ⟨w2.heap.size, 6, none⟩ = some (.slice sha shn shc) := by rw [hW3]; simp [go_sem]
  have x7 : W3.cell? ⟨w2.heap.size, 7, none⟩ = some (.bool pr) := by rw [hW3]; simp [go_sem]
  have x8 : W3.cell? ⟨w2.heap.size, 8, none⟩ = some (.int .i64 rs) := by rw [hW3]; simp [go_sem]
  obtain ⟨BX, hBX⟩ : ∃ BX, BX = w2.heap.size := ⟨_, rfl⟩
  rw [← hBX] at x0 x1 x2 x3 x4 x5 x6 x7 x8
  try rw [← hBX]
  replace g := g.trans g3
  clear hW3 hBX g3 p0 p1 p2 p3 p4 p5 p6 p7 p8 q0 q1 bl0 bl1
  go_wp2_with fail
  refine (HB.out _ g).mono ?_
  rintro e w4 ⟨MB, nE, f, rfl, hmap, hrows, hMB, hb⟩
  replace x0 := Gr.at hb x0
  replace x1 := Gr.at hb x1
  replace x2 := Gr.at hb x2
  replace x3 := Gr.at hb x3
  replace x4 := Gr.at hb x4
  replace x5 := Gr.at hb x5
  replace x6 := Gr.at hb x6
  replace x7 := Gr.at hb x7
  replace x8 := Gr.at hb x8
  have hlk := hmap.look false keyed_str Tryz.underlying102 (zero_msgs w4) hkl
  simp only [Bool.false_eq_true, if_false] at hlk
  have hro := hrows.2 nd
  rw [HL2.out] at hro
  obtain ⟨t, hv4, ht1, ht2, -, -⟩ := Al.ownM_sl hro (fun m hm => HOk.out m hm)
  rw [hv4] at hlk
  have HT1 := Lib.hid ht1; have HT2 := Lib.hid ht2
  have htn : t.n ≤ 10000 := by rw [← Al.SlM.lst_len, ht2]; exact hTl
  have htl : t.n = (Al.ofN s.lst nd).length := by rw [← ht2, Al.SlM.lst_len]
  replace g := g.trans hb
  have hbx := World.block_lt_of_cell? _ _ x0
  simp only [] at hbx
  clear hb hmap hrows hro hv4 ht1 ht2 HB hkl HL2 HOk
  have hmt : m = t.n - 1 := by rw [htl]; exact HM.out
  have e0 : IntKind.i64.wrap ((t.n : Int) - 1) = (t.n : Int) - 1 := wrap_in _ (by omega)
  have e1 : ((m : Int) != max 0 ((t.n : Int) - 1)) = false := bne_eq_false_iff_eq.2 (by omega)
  clear htl HM hTl HT2 hmt
  generalize s.A = sA at *; generalize s.n = sn at *; generalize s.c = sc at *
  clear h
  go_wp2_with fail
  refine (HQ.out _ g).mono ?_
  rintro e w5 ⟨rfl, hb⟩
  replace g := g.trans hb
  clear hb HQ
  go_wp2_with fail
  refine (HWt.out _).mono ?_
  rintro e w6 ⟨rfl, rfl⟩
  go_wp2_with fail
  go_ret2
  exact ⟨rfl, g⟩
end Go.Proofs.YtllkiadedaghoaaGreat
