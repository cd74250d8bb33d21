/-
  Names of any size: decimal.IsName and the reference's.
  Nodes and links by name: network.node, network.link (their closures).
  The reference's FindNode and FindLink.
-/
import Derived.Test.YtkgbbcmgfbipaaaGreatDoorSm08

set_option linter.unusedVariables false
set_option linter.unusedSimpArgs false
namespace Go.Proofs.YtkgbbcmgfbipaaaGreatDoor
open Go.RowKit
theorem Dc.isName_big (s : ByteArray) (h : 1000 < s.size) : Dc.isName s.data.toList = false := by
  unfold Dc.isName
  rw [show s.data.toList.length = s.size by simp, decide_eq_false (by omega : ¬ s.size ≤ 20)]
  simp
set_option maxRecDepth 100000 in
theorem isname_all (s : ByteArray) (w : World) (hm : s.size ≤ 9223372036854775807) : Calls Tryz.prog 67 #[.string s] w fun e w' => e = .returned (.bool (Dc.isName s.data.toList)) ∧ w = w' := by
  by_cases h : s.size ≤ 1000
  · exact isname_any s w h
  · rw [Dc.isName_big s (by omega)]
    have hE := empty_no s (by omega)
    have t1 : decide ((s.size : Int) ≤ 20) = false := decide_eq_false (by omega)
    clear h
    go_enter Tryz.func67, Tryz.ntmps67
    go_wp2_with fail
    go_ret
    exact ⟨rfl, rfl⟩
set_option maxRecDepth 100000 in
theorem risname_all (s : ByteArray) (w : World) (hm : s.size ≤ 9223372036854775807) : Calls Tryz.prog 56 #[.string s] w fun e w' => e = .returned (.bool (Dc.isName s.data.toList)) ∧ w = w' := by
  by_cases h : s.size ≤ 1000
  · exact risname_any s w h
  · rw [Dc.isName_big s (by omega)]
    have t0 : ((s.size : Int) == 0) = false := by rw [beq_eq_false_iff_ne]; omega
    have t1 : decide ((20 : Int) < (s.size : Int)) = true := decide_eq_true (by omega)
    clear h
    go_enter Tryz.func56, Tryz.ntmps56
    go_wp2_with fail
    go_ret
    exact ⟨rfl, rfl⟩
end Go.Proofs.YtkgbbcmgfbipaaaGreatDoor
set_option linter.unusedVariables false
set_option linter.unusedSimpArgs false
namespace Go.Proofs.YtkgbbcmgfbipaaaGreatDoor
open Go.RowKit
namespace Ba
/-- Are two names the same? -/
def eqS (a b : ByteArray) : Bool := a.toList == b.toList
end Ba
set_option maxRecDepth 100000 in
theorem nodef_any (d : Ba.Node) (t : ByteArray) (B : Nat) (w : World) (hc : w.cell? ⟨B, 0, none⟩ = some (.string t)) : Calls Tryz.prog 71 #[d.val, .pointer (some ⟨B, 0, none⟩)] w fun e w' => e = .returned (.bool (Ba.eqS d.nm t)) ∧ Gr w w' := by
  have hB : B < w.heap.size := World.block_lt_of_cell? _ _ hc
  have hn : B ≠ w.heap.size := by omega
  unfold Ba.Node.val Ba.eqS
  go_enter Tryz.func71, Tryz.ntmps71
  go_wp2_with fail
  go_ret
  exact ⟨rfl, gr_auto⟩
set_option maxRecDepth 100000 in
theorem linkf_any (d : Ba.Link) (t : ByteArray) (B : Nat) (w : World) (hc : w.cell? ⟨B, 0, none⟩ = some (.string t)) : Calls Tryz.prog 66 #[d.val, .pointer (some ⟨B, 0, none⟩)] w fun e w' => e = .returned (.bool (Ba.eqS d.nm t)) ∧ Gr w w' := by
  have hB : B < w.heap.size := World.block_lt_of_cell? _ _ hc
  have hn : B ≠ w.heap.size := by omega
  unfold Ba.Link.val Ba.eqS
  go_enter Tryz.func66, Tryz.ntmps66
  go_wp2_with fail
  go_ret
  exact ⟨rfl, gr_auto⟩
set_option maxRecDepth 100000 in
theorem node_any (s : Ba.SlNode) (A : Option Addr) (n c : Nat) (t : ByteArray) (w : World) (h : s.At w) : Calls Tryz.prog 52 #[.agg #[.slice s.A s.n s.c, .slice A n c], .string t] w fun e w' => e = .returned (.int .i64 (Ba.fstI (fun i => Ba.eqS (s.D i).nm t) s.n)) ∧ Gr w w' := by
  have HI := Lib.hid (fun (B : Nat) (W : World) (hg : Gr w W) (hc : W.cell? ⟨B, 0, none⟩ = some (.string t)) => idx_node 71 #[.pointer (some ⟨B, 0, none⟩)] s (fun i => Ba.eqS (s.D i).nm t) W (h.gr hg) (enter_of Tryz.func71 (by kernel_rfl) (by kernel_rfl)) fun i hi W' hW => nodef_any (s.D i) t B W' (Gr.at hW hc))
  clear h
  generalize Ba.fstI (fun i => Ba.eqS (s.D i).nm t) s.n = r at *
  generalize s.A = A' at *
  generalize s.n = n' at *
  generalize s.c = c' at *
  go_enter Tryz.func52, Tryz.ntmps52
  go_wp2_with fail
  refine (HI.out _ _ gr_auto (by simp [go_sem])).mono ?_
  rintro e w1 ⟨rfl, hb1⟩
  go_wp2_with fail
  go_ret
  exact ⟨rfl, gr_auto⟩
set_option maxRecDepth 100000 in
theorem link_any (s : Ba.SlLink) (A : Option Addr) (n c : Nat) (t : ByteArray) (w : World) (h : s.At w) : Calls Tryz.prog 50 #[.agg #[.slice A n c, .slice s.A s.n s.c], .string t] w fun e w' => e = .returned (.int .i64 (Ba.fstI (fun i => Ba.eqS (s.D i).nm t) s.n)) ∧ Gr w w' := by
  have HI := Lib.hid (fun (B : Nat) (W : World) (hg : Gr w W) (hc : W.cell? ⟨B, 0, none⟩ = some (.string t)) => idx_link 66 #[.pointer (some ⟨B, 0, none⟩)] s (fun i => Ba.eqS (s.D i).nm t) W (h.gr hg) (enter_of Tryz.func66 (by kernel_rfl) (by kernel_rfl)) fun i hi W' hW => linkf_any (s.D i) t B W' (Gr.at hW hc))
  clear h
  generalize Ba.fstI (fun i => Ba.eqS (s.D i).nm t) s.n = r at *
  generalize s.A = A' at *
  generalize s.n = n' at *
  generalize s.c = c' at *
  go_enter Tryz.func50, Tryz.ntmps50
  go_wp2_with fail
  refine (HI.out _ _ gr_auto (by simp [go_sem])).mono ?_
  rintro e w1 ⟨rfl, hb1⟩
  go_wp2_with fail
  go_ret
  exact ⟨rfl, gr_auto⟩
end Go.Proofs.YtkgbbcmgfbipaaaGreatDoor
set_option linter.unusedVariables false
set_option linter.unusedSimpArgs false
namespace Go.Proofs.YtkgbbcmgfbipaaaGreatDoor
open Go.RowKit
set_option maxRecDepth 100000 in
theorem rfindnode_any (s : Ba.SlNode) (A : Option Addr) (n c : Nat) (t : ByteArray) (w : World) (h : s.At w) : Calls Tryz.prog 36 #[.agg #[.slice s.A s.n s.c, .slice A n c], .string t] w fun e w' => e = .returned (.int .i64 (Ba.fstI (fun i => Ba.eqS (s.D i).nm t) s.n)) ∧ Gr w w' := by
  have HA := Lib.hid h.hA; have HX := Lib.hid h.hD
  have hn : s.n ≤ 9223372036854775807 := Nat.le_trans h.hc h.hb
  clear h
  obtain ⟨A', n', c', b, o, D⟩ := s
  simp only at *
  go_enter Tryz.func36, Tryz.ntmps36
  go_wp2_with fail
  refine name_world ?_; intro W0 hW0
  have g0 : Gr w W0 := by rw [hW0]; exact gr_auto
  have k0 : W0.cell? ⟨w.heap.size, 0, none⟩ = some (.slice A' n' c') := by rw [hW0]; simp [go_sem]
  clear hW0
  go_loopw [5] (fun q wr => ∃ i : Nat, i ≤ n' ∧ q = .int .i64 (i : Int) ∧ Gr W0 wr ∧ Hid (Ba.fst (fun i => Ba.eqS (D i).nm t) i = none)) (fun q _ => n' - (intOf q).toNat)
  case atStart => exact ⟨0, Nat.zero_le _, rfl, Gr.refl _, Lib.hid rfl⟩
  case round =>
    obtain ⟨i, hi, rfl, hg, hf⟩ := hrel
    have k1 := Gr.at hg k0
    by_cases hlt : i < n'
    · obtain rfl := HA.out (by omega)
      have a0 := Gr.at hg (Gr.at g0 (HX.out i hlt).1.1)
      cases hp : Ba.eqS (D i).nm t
      · have HF := Lib.hid (Ba.fst_miss (p := fun i => Ba.eqS (D i).nm t) hf.out hp)
        unfold Ba.eqS at hp
        clear hf
        go_wp2_with fail
        go_roundw
        case rel => exact ⟨i + 1, by omega, by go_num, gr_auto, HF⟩
        case measure => simp [intOf]; omega
      · have HF := Lib.hid (Ba.fstI_hit (p := fun i => Ba.eqS (D i).nm t) hf.out hp hlt)
        unfold Ba.eqS at hp
        clear hf
        go_wp2_with fail
        go_ret
        exact ⟨ret_int HF.out.symm, gr_auto⟩
    · obtain rfl : i = n' := by omega
      have HF := Lib.hid (Ba.fstI_none hf.out)
      clear hf
      go_wp2_with fail
      go_ret
      exact ⟨ret_int HF.out.symm, gr_auto⟩
set_option maxRecDepth 100000 in
theorem rfindlink_any (s : Ba.SlLink) (A : Option Addr) (n c : Nat) (t : ByteArray) (w : World) (h : s.At w) : Calls Tryz.prog 29 #[.agg #[.slice A n c, .slice s.A s.n s.c], .string t] w fun e w' => e = .returned (.int .i64 (Ba.fstI (fun i => Ba.eqS (s.D i).nm t) s.n)) ∧ Gr w w' := by
  have HA := Lib.hid h.hA; have HX := Lib.hid h.hD
  have hn : s.n ≤ 9223372036854775807 := Nat.le_trans h.hc h.hb
  clear h
  obtain ⟨A', n', c', b, o, D⟩ := s
  simp only at *
  go_enter Tryz.func29, Tryz.ntmps29
  go_wp2_with fail
  refine name_world ?_; intro W0 hW0
  have g0 : Gr w W0 := by rw [hW0]; exact gr_auto
  have k0 : W0.cell? ⟨w.heap.size, 1, none⟩ = some (.slice A' n' c') := by rw [hW0]; simp [go_sem]
  clear hW0
  go_loopw [5] (fun q wr => ∃ i : Nat, i ≤ n' ∧ q = .int .i64 (i : Int) ∧ Gr W0 wr ∧ Hid (Ba.fst (fun i => Ba.eqS (D i).nm t) i = none)) (fun q _ => n' - (intOf q).toNat)
  case atStart => exact ⟨0, Nat.zero_le _, rfl, Gr.refl _, Lib.hid rfl⟩
  case round =>
    obtain ⟨i, hi, rfl, hg, hf⟩ := hrel
    have k1 := Gr.at hg k0
    by_cases hlt : i < n'
    · obtain rfl := HA.out (by omega)
      have a0 := Gr.at hg (Gr.at g0 (HX.out i hlt).1.1)
      cases hp : Ba.eqS (D i).nm t
      · have HF := Lib.hid (Ba.fst_miss (p := fun i => Ba.eqS (D i).nm t) hf.out hp)
        unfold Ba.eqS at hp
        clear hf
        go_wp2_with fail
        go_roundw
        case rel => exact ⟨i + 1, by omega, by go_num, gr_auto, HF⟩
        case measure => simp [intOf]; omega
      · have HF := Lib.hid (Ba.fstI_hit (p := fun i => Ba.eqS (D i).nm t) hf.out hp hlt)
        unfold Ba.eqS at hp
        clear hf
        go_wp2_with fail
        go_ret
        exact ⟨ret_int HF.out.symm, gr_auto⟩
    · obtain rfl : i = n' := by omega
      have HF := Lib.hid (Ba.fstI_none hf.out)
      clear hf
      go_wp2_with fail
      go_ret
      exact ⟨ret_int HF.out.symm, gr_auto⟩
end Go.Proofs.YtkgbbcmgfbipaaaGreatDoor
