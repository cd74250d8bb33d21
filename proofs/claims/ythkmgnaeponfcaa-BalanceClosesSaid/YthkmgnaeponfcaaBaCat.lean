/-
  slices.Concat of two slices of strings. (Printed by mkcat.py.)
-/
import Derived.Test.YthkmgnaeponfcaaBaStrs
set_option linter.unusedVariables false
set_option linter.unusedSimpArgs false
namespace Go.Proofs.Ythkmgnaeponfcaa
open Go.RowKit Go.Shelf
attribute [local go_sem ↓] Go.wp_at_zero Go.wp_at_succ
def szL (fn tn : Nat) (i : Nat) : Int := if i = 0 then 0 else if i = 1 then (fn : Int) else (fn : Int) + (tn : Int)
def catL (fl tl : List ByteArray) (i : Nat) : List ByteArray := if i = 0 then [] else if i = 1 then fl else fl ++ tl

set_option maxRecDepth 100000 in
set_option maxHeartbeats 2000000 in
theorem concat_w (fA tA : Option Addr) (fn fc fb fo tn tc tb tO : Nat) (fX tX : Nat → ByteArray) (B : Nat) (w : World) (c0 : w.cell? ⟨B, 0, none⟩ = some (.slice fA fn fc)) (c1 : w.cell? ⟨B, 1, none⟩ = some (.slice tA tn tc)) (hf : fn ≤ 1000) (ht : tn ≤ 1000)
    (fA0 : Hid (0 < fn → fA = some ⟨fb, fo, none⟩)) (tA0 : Hid (0 < tn → tA = some ⟨tb, tO, none⟩)) (fX0 : Hid (∀ j, j < fn → w.cell? ⟨fb, fo + j, none⟩ = some (.string (fX j)) ∧ (fX j).size ≤ 9223372036854775807)) (tX0 : Hid (∀ j, j < tn → w.cell? ⟨tb, tO + j, none⟩ = some (.string (tX j)) ∧ (tX j).size ≤ 9223372036854775807)) (fN : fA = none → fc = 0) (tN : tA = none → tc = 0) :
    Calls Try.prog 19 #[.slice (some ⟨B, 0, none⟩) 2 2] w (RetL (Ba.lstS fn fX ++ Ba.lstS tn tX) w) := by
  obtain ⟨i0, hi0, hz0, hz1, hz2⟩ := info_parts info_str
  have HI := Lib.hid hi0; have HZ0 := Lib.hid hz0; have HZ1 := Lib.hid hz1; have HZ2 := Lib.hid hz2
  clear hi0 hz0 hz1 hz2
  have HG := Lib.hid (fun W => show Calls Try.prog 48 #[.slice none 0 0, .int .i64 ((fn : Int) + (tn : Int))] W fun e w' => ∃ v, e = .returned v ∧ w'.ownsRow W.heap.size 9 1 v 0 [] ∧ Gr W w' from (Int.natCast_add fn tn) ▸ grow_any (fn + tn) W (by omega))
  have HL := Lib.hid (fun x (hx : x ∈ Ba.lstS fn fX ++ Ba.lstS tn tX) => show x.size ≤ 9223372036854775807 from by
    rcases List.mem_append.1 hx with hx | hx
    · obtain ⟨j, hj, rfl⟩ := List.mem_map.1 hx
      exact (fX0.out j (List.mem_range.1 hj)).2
    · obtain ⟨j, hj, rfl⟩ := List.mem_map.1 hx
      exact (tX0.out j (List.mem_range.1 hj)).2)
  go_enter Try.func19, Try.ntmps19
  go_wp2_with fail
  go_loop [3, 11] (fun a q => ∃ i : Nat, i ≤ 2 ∧ q = .int .i64 (i : Int) ∧ a = .int .i64 (szL fn tn i)) (fun _ q => 2 - (intOf q).toNat)
  case atStart => exact ⟨0, by omega, rfl, rfl⟩
  case round =>
    obtain ⟨i, hi, rfl, rfl⟩ := hrel
    rcases (by omega : i = 0 ∨ i = 1 ∨ i = 2) with rfl | rfl | rfl
    · clear HG HL fX0 tX0 fA0 tA0 HI HZ0 HZ1 HZ2 fN tN
      rw [show szL fn tn 0 = 0 from rfl]
      go_wp2_with fail
      go_round
      case rel => exact ⟨1, by omega, by go_num, by simp [szL]⟩
      case measure => simp [intOf]
    · clear HG HL fX0 tX0 fA0 tA0 HI HZ0 HZ1 HZ2 fN tN
      rw [show szL fn tn 1 = (fn : Int) from rfl]
      go_wp2_with fail
      go_round
      case rel => exact ⟨2, by omega, by go_num, by simp [szL]⟩
      case measure => simp [intOf]
    · rw [show szL fn tn 2 = (fn : Int) + (tn : Int) from rfl]
      go_wp2_with fail
      refine (HG.out _).mono ?_
      rintro e w4 ⟨v0, rfl, hown, hb4⟩
      have HO4 := Lib.hid hown
      clear hown HG
      go_wp2_with fail
      go_loopw [6, 27] (fun v q wr => ∃ i : Nat, i ≤ 2 ∧ q = .int .i64 (i : Int) ∧ Hid (wr.ownsRow w.heap.size 9 1 v (catL (Ba.lstS fn fX) (Ba.lstS tn tX) i).length ((catL (Ba.lstS fn fX) (Ba.lstS tn tX) i).map Value.string)) ∧ Gr w wr) (fun _ q _ => 2 - (intOf q).toNat)
      case atStart => exact ⟨0, by omega, rfl, Lib.hid HO4.out, hb4⟩
      case round =>
        clear HO4
        obtain ⟨i, hi, rfl, HO, hg⟩ := hrel
        have gr : Gr w wr := hg
        have d0 := Gr.at hg c0; have d1 := Gr.at hg c1
        rcases (by omega : i = 0 ∨ i = 1 ∨ i = 2) with rfl | rfl | rfl
        · have ho := HO.out
          rw [show catL (Ba.lstS fn fX) (Ba.lstS tn tX) 0 = [] from rfl, List.length_nil, List.map_nil] at ho
          clear HO
          have HO := Lib.hid ho
          clear ho
          cases fA with
          | none =>
            obtain rfl : fn = 0 := by
              by_cases h0 : 0 < fn
              · exact absurd (fA0.out h0) (by simp)
              · omega
            obtain rfl := fN rfl
            go_wp2_with (go_loud (at_builtin; refine wpList_append_own_none rfl _ _ 34 rfl w.heap.size 9 i0 1 Try.underlying34 HI.out _ 0 [] rfl (ownsRow_gr HO.out (by exact gr_auto)) rfl ?_))
            go_roundw
            case rel => first | exact ⟨1, by omega, by go_num, Lib.hid (by have := HO.out; simpa [catL, Ba.lstS] using this), gr_auto⟩ | exact ⟨_, _, _, ⟨1, by omega, by go_num, Lib.hid (by have := HO.out; simpa [catL, Ba.lstS] using this)⟩, rfl, rfl, by go_num⟩
            case measure => simp [intOf]
          | some ad =>
            go_wp2_with (at_builtin; refine wpList_append_own _ rfl _ _ 34 rfl w.heap.size 9 i0 (.string ⟨#[]⟩) 1 16 Try.underlying34 HI.out HZ0.out HZ1.out HZ2.out rfl (by decide) _ 0 [] rfl (ownsRow_gr HO.out (by exact gr_auto)) ad fn fc ((Ba.lstS fn fX).map Value.string) rfl (by simp [Ba.lstS_len]) ?c1 ?c2 ?c3 ?c4 ?c5 ?_)
            case c1 => exact src_at fA0.out (fun j hj => by have := Gr.at gr (fX0.out j hj).1; simpa [go_sem] using this)
            case c2 => exact str_one _
            case c3 => unfold maxLen; omega
            case c4 => omega
            case c5 => have := Gr.size hg; simp; omega
            intro v' w6 hown' hgrow _
            have hg6 : Gr w w6 := by
              refine Gr.own (base := w.heap.size) ?_ (Nat.le_refl _) (ownsRow_gr HO.out ?_) hgrow
              · exact gr_auto
              · exact gr_auto
            have HO6 := Lib.hid hown'
            clear hown' hgrow
            go_wp2_with fail
            go_roundw
            case rel => exact ⟨1, by omega, by go_num, Lib.hid (by have := HO6.out; simpa [catL, Ba.lstS] using this), hg6⟩
            case measure => simp [intOf]
        · have ho := HO.out
          rw [show catL (Ba.lstS fn fX) (Ba.lstS tn tX) 1 = Ba.lstS fn fX from rfl, Ba.lstS_len] at ho
          clear HO
          have HO := Lib.hid ho
          clear ho
          cases tA with
          | none =>
            obtain rfl : tn = 0 := by
              by_cases h0 : 0 < tn
              · exact absurd (tA0.out h0) (by simp)
              · omega
            obtain rfl := tN rfl
            go_wp2_with (go_loud (at_builtin; refine wpList_append_own_none rfl _ _ 34 rfl w.heap.size 9 i0 1 Try.underlying34 HI.out _ fn ((Ba.lstS fn fX).map Value.string) rfl (ownsRow_gr HO.out (by exact gr_auto)) rfl ?_))
            go_roundw
            case rel => first | exact ⟨2, by omega, by go_num, Lib.hid (by have := HO.out; simpa [catL, Ba.lstS] using this), gr_auto⟩ | exact ⟨_, _, _, ⟨2, by omega, by go_num, Lib.hid (by have := HO.out; simpa [catL, Ba.lstS] using this)⟩, rfl, rfl, by go_num⟩
            case measure => simp [intOf]
          | some ad =>
            go_wp2_with (at_builtin; refine wpList_append_own _ rfl _ _ 34 rfl w.heap.size 9 i0 (.string ⟨#[]⟩) 1 16 Try.underlying34 HI.out HZ0.out HZ1.out HZ2.out rfl (by decide) _ fn ((Ba.lstS fn fX).map Value.string) rfl (ownsRow_gr HO.out (by exact gr_auto)) ad tn tc ((Ba.lstS tn tX).map Value.string) rfl (by simp [Ba.lstS_len]) ?c1 ?c2 ?c3 ?c4 ?c5 ?_)
            case c1 => exact src_at tA0.out (fun j hj => by have := Gr.at gr (tX0.out j hj).1; simpa [go_sem] using this)
            case c2 => exact str_one _
            case c3 => unfold maxLen; omega
            case c4 => omega
            case c5 => have := Gr.size hg; simp; omega
            intro v' w6 hown' hgrow _
            have hg6 : Gr w w6 := by
              refine Gr.own (base := w.heap.size) ?_ (Nat.le_refl _) (ownsRow_gr HO.out ?_) hgrow
              · exact gr_auto
              · exact gr_auto
            have HO6 := Lib.hid hown'
            clear hown' hgrow
            go_wp2_with fail
            go_roundw
            case rel => exact ⟨2, by omega, by go_num, Lib.hid (by have := HO6.out; simpa [catL, Ba.lstS] using this), hg6⟩
            case measure => simp [intOf]
        · have HO := Lib.hid (show wr.ownsRow w.heap.size 9 1 _ (catL (Ba.lstS fn fX) (Ba.lstS tn tX) 2).length ((Ba.lstS fn fX ++ Ba.lstS tn tX).map Value.string) from HO.out)
          obtain ⟨s, rfl, hs1, hs2, hs3⟩ := sls_own HO.out HL.out
          have HS := Lib.hid (And.intro hs1 (And.intro hs2 hs3))
          clear hs1 hs2 hs3
          go_wp2_with fail
          go_ret
          exact ⟨s, rfl, HS.out.1, HS.out.2.1, HS.out.2.2, gr⟩
theorem cat_any (F T : Ba.SlS) (B : Nat) (w : World) (hF : F.At w) (hT : T.At w) (nF : F.A = none → F.c = 0) (nT : T.A = none → T.c = 0) (hf : F.n ≤ 20) (ht : T.n ≤ 20) (c0 : w.cell? ⟨B, 0, none⟩ = some (.slice F.A F.n F.c)) (c1 : w.cell? ⟨B, 1, none⟩ = some (.slice T.A T.n T.c)) : Calls Try.prog 19 #[.slice (some ⟨B, 0, none⟩) 2 2] w (RetL (Ba.lstS F.n F.X ++ Ba.lstS T.n T.X) w) :=
  concat_w F.A T.A F.n F.c F.b F.o T.n T.c T.b T.o F.X T.X B w c0 c1 (by omega) (by omega) (Lib.hid hF.hA) (Lib.hid hT.hA) (Lib.hid hF.hX) (Lib.hid hT.hX) nF nT
end Go.Proofs.Ythkmgnaeponfcaa

