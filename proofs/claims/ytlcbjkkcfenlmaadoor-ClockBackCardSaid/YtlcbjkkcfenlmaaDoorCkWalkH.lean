import Derived.Test.YtlcbjkkcfenlmaaDoorCkWalkG
import Derived.Test.YtlcbjkkcfenlmaaDoorCkPlainC
set_option linter.unusedVariables false
set_option linter.unusedSimpArgs false
namespace Go.Proofs.YtlcbjkkcfenlmaaDoor
open Go.RowKit
theorem Tryd.info3 : (Tryd.prog.info? 3).map (fun i => (i.zero, i.size, i.bytes)) = some (some (.int .i64 0), 1, 8) := by kernel_rfl
theorem getD_byte (s : ByteArray) (k : Nat) (h : k < s.size) : s.data.toList.getD k 0 = s[k] := by
  have h' : k < s.data.toList.length := by simpa using h
  rw [List.getD, List.getElem?_eq_getElem h']; rfl
/-- What numbers returns. -/
def NumPost (sl pl : List UInt8) (w : World) (e : Ending) (w' : World) : Prop :=
  match Ck.run pl sl 19 with
  | none => e = .returned (.tuple #[.slice none 0 0, .bool false]) ∧ Gr w w'
  | some (L, n, _) => ∃ v, e = .returned (.tuple #[v, .bool true]) ∧ w'.ownsRow w.heap.size 3 1 v (L.length + 1) ((L ++ [n]).map (Value.int .i64)) ∧ Gr w w'
theorem numPost_none {sl pl : List UInt8} {w w' : World} {e : Ending} {k : Nat} (hk : k ≤ 19) (h : Ck.run pl sl k = none) (he : e = .returned (.tuple #[.slice none 0 0, .bool false])) (hg : Gr w w') : NumPost sl pl w e w' := by
  unfold NumPost; rw [Ck.run_none h 19 hk]; exact ⟨he, hg⟩
theorem numPost_some {sl pl : List UInt8} {w w' : World} {v : Value} {L : List Int} {n : Int} {o : Bool} (h : Ck.run pl sl 19 = some (L, n, o)) (ho : w'.ownsRow w.heap.size 3 1 v (L.length + 1) ((L ++ [n]).map (Value.int .i64))) (hg : Gr w w') : NumPost sl pl w (.returned (.tuple #[v, .bool true])) w' := by
  unfold NumPost; rw [h]; exact ⟨v, rfl, ho, hg⟩
theorem ownsRow_gr {w w' : World} {base e size n : Nat} {v : Value} {xs : List Value} (h : w.ownsRow base e size v n xs) (hg : Gr w w') : w'.ownsRow base e size v n xs := by
  obtain ⟨hl, h | ⟨g, cap, cur, hv, hb, hc, r⟩⟩ := h
  · exact ⟨hl, Or.inl h⟩
  · refine ⟨hl, Or.inr ⟨g, cap, cur, hv, hb, ?_, r⟩⟩
    have hlt : g < w.heap.size := (Array.getElem?_eq_some_iff.1 hc).1
    rw [Below.block hg g hlt]; exact hc
theorem Gr.own {w W W1 : World} {v : Value} {e size n : Nat} {xs : List Value} (h : Gr w W) (ho : W.ownsRow w.heap.size e size v n xs) (hg : W.grownBy W1 v.ownBlock) : Gr w W1 :=
  Below.grown h hg (Gr.size h) fun k hk => (ho.lt k hk).1
/-- The state at the head of a round. -/
def NumSt (sl pl : List UInt8) (w : World) (k : Nat) (L : List Int) (n : Int) (o : Bool) (v : Value) (wr : World) : Prop :=
  Ck.run pl sl k = some (L, n, o) ∧ wr.ownsRow w.heap.size 3 1 v L.length (L.map (Value.int .i64)) ∧ Gr w wr
set_option maxHeartbeats 400000 in
theorem numbers_size (s p : ByteArray) (w : World) (hp : p.size = 19) (hs : s.size ≠ 19) (hm : s.size ≤ 9223372036854775807) :
    Calls Tryd.prog 50 #[.string s, .string p] w fun e w' => e = .returned (.tuple #[.slice none 0 0, .bool false]) ∧ Gr w w' := by
  have hb : ((s.size : Int) != (p.size : Int)) = true := by rw [bne_iff_ne, hp]; omega
  have HP := Lib.hid hp; clear hp hs
  go_enter Tryd.func50, Tryd.ntmps50
  go_wp2
  go_ret2
  exact ⟨rfl, (by repeat' (first | (with_reducible exact Gr.refl _) | (with_reducible assumption) | (with_reducible refine Gr.alloc ?_ _) | (with_reducible refine Gr.drew ?_) | (with_reducible refine Gr.drewN ?_ _) | (with_reducible refine Gr.setCell ?_ ?_ _) | (with_reducible refine Gr.trans ?_ (by with_reducible assumption)) | go_size))⟩
set_option maxHeartbeats 3000000 in
set_option maxRecDepth 100000 in
theorem numbers_any (s p : ByteArray) (w : World) (hp : p.size = 19) (hs : s.size = 19) (hpl : p.data.toList = Ck.pat) :
    Calls Tryd.prog 50 #[.string s, .string p] w (NumPost s.data.toList Ck.pat w) := by
  have hb : ((s.size : Int) != (p.size : Int)) = false := by simp [hp, hs]
  have HP := Lib.hid hp; have HS := Lib.hid hs; have HPL := Lib.hid hpl
  have hs0 : s.size ≤ 19 := by omega
  have hs1 : 19 ≤ s.size := by omega
  have hp0 : p.size ≤ 19 := by omega
  have hp1 : 19 ≤ p.size := by omega
  clear hp hs hpl
  obtain ⟨i0, hi, hz0, hz1, hz2⟩ := info_parts Tryd.info3
  have HI := Lib.hid hi; have HZ0 := Lib.hid hz0; have HZ1 := Lib.hid hz1; have HZ2 := Lib.hid hz2
  clear hi hz0 hz1 hz2
  go_enter Tryd.func50, Tryd.ntmps50
  go_wp2_with fail
  go_loopw [6, 7, 8, 17] (fun s6 s7 s8 s17 wr => ∃ (k : Nat) (L : List Int) (n : Int) (o : Bool), k ≤ 19 ∧ s17 = .int .i64 k ∧ s7 = .int .i64 n ∧ s8 = .bool o ∧ NumSt s.data.toList Ck.pat w k L n o s6 wr) (fun _ _ _ s17 _ => 19 - (intOf s17).toNat)
  case atStart => exact ⟨0, [], 0, false, by omega, rfl, rfl, rfl, rfl, ⟨rfl, Or.inl ⟨rfl, rfl⟩⟩, (by repeat' (first | (with_reducible exact Gr.refl _) | (with_reducible assumption) | (with_reducible refine Gr.alloc ?_ _) | (with_reducible refine Gr.drew ?_) | (with_reducible refine Gr.drewN ?_ _) | (with_reducible refine Gr.setCell ?_ ?_ _) | (with_reducible refine Gr.trans ?_ (by with_reducible assumption)) | go_size))⟩
  case round =>
    obtain ⟨k, L, n, o, hk, rfl, rfl, rfl, hst⟩ := hrel
    obtain ⟨hrun, hown, hg⟩ := hst
    obtain ⟨n0, n1⟩ := Ck.run_bd hk hrun
    have hLen := Ck.run_len _ _ _ _ hrun
    have HR := Lib.hid hrun; have HOWN := Lib.hid hown; clear hrun hown
    by_cases hlt : k < 19
    · have hks : k < s.size := by omega
      have hkp : k < p.size := by omega
      have gs := Lib.hid (getD_byte s k hks)
      have gp := Lib.hid (by have := getD_byte p k hkp; rw [HPL.out] at this; exact this)
      have b0 : (s[k].toNat : Int) < 256 := by have := s[k].toNat_lt; omega
      have b1 : (p[k].toNat : Int) < 256 := by have := p[k].toNat_lt; omega
      by_cases hpp : p[k].toNat = 48
      · have t0 : ((p[k].toNat : Int) != 48) = false := by simp [hpp]
        by_cases hd : 48 ≤ s[k].toNat ∧ s[k].toNat ≤ 57
        · obtain ⟨d0, d1⟩ := hd
          have HN := Lib.hid (Ck.run_digit HR.out (by rw [gp.out]; exact hpp) (by rw [gs.out]; exact d0) (by rw [gs.out]; exact d1))
          rw [gs.out] at HN
          have t1 : decide ((s[k].toNat : Int) < 48) = false := decide_eq_false (by omega)
          have t2 : decide (57 < (s[k].toNat : Int)) = false := decide_eq_false (by omega)
          have e0 : (48 : Int) ≤ (s[k].toNat : Int) := by omega
          have e1 : (s[k].toNat : Int) ≤ 57 := by omega
          clear hpp d0 d1
          go_wp2_with fail
          go_roundw
          case rel => exact ⟨k + 1, _, _, true, by omega, by go_num, rfl, rfl, HN.out, HOWN.out, (by repeat' (first | (with_reducible exact Gr.refl _) | (with_reducible assumption) | (with_reducible refine Gr.alloc ?_ _) | (with_reducible refine Gr.drew ?_) | (with_reducible refine Gr.drewN ?_ _) | (with_reducible refine Gr.setCell ?_ ?_ _) | (with_reducible refine Gr.trans ?_ (by with_reducible assumption)) | go_size))⟩
          case measure => simp [intOf]; omega
        · have HN := Lib.hid (Ck.run_bad HR.out (by rw [gp.out]; exact hpp) (by rw [gs.out]; omega))
          by_cases hd0 : s[k].toNat < 48
          · have t1 : decide ((s[k].toNat : Int) < 48) = true := decide_eq_true (by omega)
            clear hpp hd hd0
            go_wp2_with fail
            go_ret2
            exact numPost_none (k := k + 1) (by omega) HN.out rfl (by repeat' (first | (with_reducible exact Gr.refl _) | (with_reducible assumption) | (with_reducible refine Gr.alloc ?_ _) | (with_reducible refine Gr.drew ?_) | (with_reducible refine Gr.drewN ?_ _) | (with_reducible refine Gr.setCell ?_ ?_ _) | (with_reducible refine Gr.trans ?_ (by with_reducible assumption)) | go_size))
          · have t1 : decide ((s[k].toNat : Int) < 48) = false := decide_eq_false (by omega)
            have t2 : decide (57 < (s[k].toNat : Int)) = true := decide_eq_true (by omega)
            clear hpp hd hd0
            go_wp2_with fail
            go_ret2
            exact numPost_none (k := k + 1) (by omega) HN.out rfl (by repeat' (first | (with_reducible exact Gr.refl _) | (with_reducible assumption) | (with_reducible refine Gr.alloc ?_ _) | (with_reducible refine Gr.drew ?_) | (with_reducible refine Gr.drewN ?_ _) | (with_reducible refine Gr.setCell ?_ ?_ _) | (with_reducible refine Gr.trans ?_ (by with_reducible assumption)) | go_size))
      · have t0 : ((p[k].toNat : Int) != 48) = true := by rw [bne_iff_ne]; omega
        by_cases hd : s[k].toNat = p[k].toNat
        · have HN := Lib.hid (Ck.run_sep HR.out (by rw [gp.out]; exact hpp) (by rw [gp.out, gs.out]; exact hd))
          have t1 : ((s[k].toNat : Int) != (p[k].toNat : Int)) = false := by simp [hd]
          clear hpp hd
          cases o
          · go_wp2_with fail
            go_quiet (fail)
            go_wp2_with fail
            go_roundw
            case rel => exact ⟨k + 1, L, 0, false, by omega, by go_num, rfl, rfl, HN.out, HOWN.out, (by repeat' (first | (with_reducible exact Gr.refl _) | (with_reducible assumption) | (with_reducible refine Gr.alloc ?_ _) | (with_reducible refine Gr.drew ?_) | (with_reducible refine Gr.drewN ?_ _) | (with_reducible refine Gr.setCell ?_ ?_ _) | (with_reducible refine Gr.trans ?_ (by with_reducible assumption)) | go_size))⟩
            case measure => simp [intOf]; omega
          · go_wp2_with fail
            go_quiet (fail)
            go_wp2_with (at_builtin; refine wpList_append_own _ rfl _ _ 63 rfl w.heap.size 3 i0 (.int .i64 0) 1 8 Tryd.underlying63 HI.out HZ0.out HZ1.out HZ2.out rfl (by decide) _ L.length (L.map (Value.int .i64)) rfl (ownsRow_gr HOWN.out (by exact (by repeat' (first | (with_reducible exact Gr.refl _) | (with_reducible assumption) | (with_reducible refine Gr.alloc ?_ _) | (with_reducible refine Gr.drew ?_) | (with_reducible refine Gr.drewN ?_ _) | (with_reducible refine Gr.setCell ?_ ?_ _) | (with_reducible refine Gr.trans ?_ (by with_reducible assumption)) | go_size)))) ⟨wr.heap.size, 0, none⟩ 1 1 [.int .i64 n] rfl rfl ?c1 ?c2 ?c3 ?c4 ?c5 ?_)
            case c1 =>
              intro j u hj
              match j, hj with
              | 0, hj => simp at hj; subst hj; first | (simp [Addr.add, go_sem]; done) | (show World.cell? _ ⟨wr.heap.size, 0, none⟩ = _; rw [World.cell?_alloc_at _ _ _ _ (by simp)]; rfl)
            case c2 => intro u hu; simp at hu; subst hu; rfl
            case c3 => unfold maxLen; omega
            case c4 => omega
            case c5 => have := Gr.size hg; simp; omega
            intro v' w1 hown' hgrow _
            have hg1 : Gr w w1 := by
              refine Gr.own ?_ (ownsRow_gr HOWN.out ?_) hgrow
              · exact (by repeat' (first | (with_reducible exact Gr.refl _) | (with_reducible assumption) | (with_reducible refine Gr.alloc ?_ _) | (with_reducible refine Gr.drew ?_) | (with_reducible refine Gr.drewN ?_ _) | (with_reducible refine Gr.setCell ?_ ?_ _) | (with_reducible refine Gr.trans ?_ (by with_reducible assumption)) | go_size))
              · exact (by repeat' (first | (with_reducible exact Gr.refl _) | (with_reducible assumption) | (with_reducible refine Gr.alloc ?_ _) | (with_reducible refine Gr.drew ?_) | (with_reducible refine Gr.drewN ?_ _) | (with_reducible refine Gr.setCell ?_ ?_ _) | (with_reducible refine Gr.trans ?_ (by with_reducible assumption)) | go_size))
            have HO := Lib.hid hown'
            clear hown' hgrow
            go_wp2_with fail
            go_roundw
            case rel => exact ⟨k + 1, L ++ [n], 0, false, by omega, by go_num, rfl, rfl, HN.out, by simpa using HO.out, hg1⟩
            case measure => simp [intOf]; omega
        · have HN := Lib.hid (Ck.run_miss HR.out (by rw [gp.out]; exact hpp) (by rw [gp.out, gs.out]; exact hd))
          have t1 : ((s[k].toNat : Int) != (p[k].toNat : Int)) = true := by rw [bne_iff_ne]; omega
          clear hpp hd
          go_wp2_with fail
          go_quiet (fail)
          go_wp2_with fail
          go_ret2
          exact numPost_none (k := k + 1) (by omega) HN.out rfl (by repeat' (first | (with_reducible exact Gr.refl _) | (with_reducible assumption) | (with_reducible refine Gr.alloc ?_ _) | (with_reducible refine Gr.drew ?_) | (with_reducible refine Gr.drewN ?_ _) | (with_reducible refine Gr.setCell ?_ ?_ _) | (with_reducible refine Gr.trans ?_ (by with_reducible assumption)) | go_size))
    · obtain rfl : k = 19 := by omega
      go_wp2_with (at_builtin; refine wpList_append_own _ rfl _ _ 63 rfl w.heap.size 3 i0 (.int .i64 0) 1 8 Tryd.underlying63 HI.out HZ0.out HZ1.out HZ2.out rfl (by decide) _ L.length (L.map (Value.int .i64)) rfl (ownsRow_gr HOWN.out (by exact (by repeat' (first | (with_reducible exact Gr.refl _) | (with_reducible assumption) | (with_reducible refine Gr.alloc ?_ _) | (with_reducible refine Gr.drew ?_) | (with_reducible refine Gr.drewN ?_ _) | (with_reducible refine Gr.setCell ?_ ?_ _) | (with_reducible refine Gr.trans ?_ (by with_reducible assumption)) | go_size)))) ⟨wr.heap.size, 0, none⟩ 1 1 [.int .i64 n] rfl rfl ?c1 ?c2 ?c3 ?c4 ?c5 ?_)
      case c1 =>
        intro j u hj
        match j, hj with
        | 0, hj => simp at hj; subst hj; first | (simp [Addr.add, go_sem]; done) | (show World.cell? _ ⟨wr.heap.size, 0, none⟩ = _; rw [World.cell?_alloc_at _ _ _ _ (by simp)]; rfl)
      case c2 => intro u hu; simp at hu; subst hu; rfl
      case c3 => unfold maxLen; omega
      case c4 => omega
      case c5 => have := Gr.size hg; simp; omega
      intro v' w1 hown' hgrow _
      have hg1 : Gr w w1 := by
        refine Gr.own ?_ (ownsRow_gr HOWN.out ?_) hgrow
        · exact (by repeat' (first | (with_reducible exact Gr.refl _) | (with_reducible assumption) | (with_reducible refine Gr.alloc ?_ _) | (with_reducible refine Gr.drew ?_) | (with_reducible refine Gr.drewN ?_ _) | (with_reducible refine Gr.setCell ?_ ?_ _) | (with_reducible refine Gr.trans ?_ (by with_reducible assumption)) | go_size))
        · exact (by repeat' (first | (with_reducible exact Gr.refl _) | (with_reducible assumption) | (with_reducible refine Gr.alloc ?_ _) | (with_reducible refine Gr.drew ?_) | (with_reducible refine Gr.drewN ?_ _) | (with_reducible refine Gr.setCell ?_ ?_ _) | (with_reducible refine Gr.trans ?_ (by with_reducible assumption)) | go_size))
      have HO := Lib.hid hown'
      clear hown' hgrow
      go_wp2
      go_ret2
      exact numPost_some HR.out (by simpa using HO.out) hg1
end Go.Proofs.YtlcbjkkcfenlmaaDoor
