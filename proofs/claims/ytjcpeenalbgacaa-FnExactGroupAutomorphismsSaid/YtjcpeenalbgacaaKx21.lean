/-
  Contracts of IsNormalIn: reference and program.
-/
import Derived.Test.YtjcpeenalbgacaaProg
import Derived.Deep.DeepCutAuto
import Derived.Deep.RegionWith
import Derived.Deep.RegionHeld3
import Derived.Deep.DrawnRows
import Derived.Test.YtjcpeenalbgacaaKx0
import Derived.Test.YtjcpeenalbgacaaKx1
import Derived.Test.YtjcpeenalbgacaaKx3
import Derived.Test.YtjcpeenalbgacaaKx9
import Derived.Test.YtjcpeenalbgacaaKx2
import Derived.Test.YtjcpeenalbgacaaKx4
import Derived.Test.YtjcpeenalbgacaaKx5
import Derived.Test.YtjcpeenalbgacaaKx16
import Derived.Test.YtjcpeenalbgacaaKx14
import Derived.Test.YtjcpeenalbgacaaKx7
import Derived.Test.YtjcpeenalbgacaaKx10
import Derived.Test.YtjcpeenalbgacaaKx18
import Derived.Test.YtjcpeenalbgacaaKx8
import Derived.Test.YtjcpeenalbgacaaKx20
namespace Go.Proofs.Ytjcpeenalbgacaa
set_option linter.unusedVariables false
set_option linter.unusedSimpArgs false
open Go.RowKit
attribute [local go_sem ↓] Go.wp_at_zero Go.wp_at_succ

set_option maxRecDepth 100000 in
set_option maxHeartbeats 1000000 in
theorem l10Inner_any (t : List (List Int)) (v : Value) (w : World) (hv : Rows w v t) (hG : GroupOk t) :
    Calls Try.prog 124 #[v] w fun e w' => ∃ v, e = .returned v ∧ Rows w' v (mkT t.length (conjF t)) ∧ Ext w w' := by
  obtain ⟨hlen, b, o, c, rfl, hc⟩ := id hv
  have h12 := hG.1.2.1
  have HB := Lib.hid (fun x (hx : x < t.length) => backF_ok hG hx)
  have HG := Lib.hid hG
  clear hG
  have HLT := Lib.hid (length_mkT t.length (conjF t))
  go_enter Try.func124, Try.ntmps124
  go_wp2
  have hX := Ext.refl w
  have hx0 : Ext w (w.alloc (.cells #[] 26)) := (Ext.refl _).alloc _
  have hg0 := GrowT.lit (e := 26) (base := w.heap.size) (w := w) (Nat.le_refl _)
  go_loopw [3, 4] (fun v x wr => ∃ k : Nat, k ≤ t.length ∧ x = .int .i64 k ∧ GrowT 26 w.heap.size wr v ((mkT t.length (conjF t)).take k) ∧ v ≠ .slice none 0 0 ∧ Ext w wr) (fun _ x _ => t.length - (intOf x).toNat)
  case atStart => exact ⟨0, Nat.zero_le _, rfl, hg0, by simp, hx0⟩
  case round =>
    clear hx0 hg0
    obtain ⟨k, hk, rfl, hg, hv', hx⟩ := hrel
    have HV := Lib.hid hv'
    clear hv'
    by_cases hkl : k < t.length
    case neg =>
      go_wp2
      go_ret
      refine ⟨u3, rfl, ?_, hX.trans hx⟩
      have : (mkT t.length (conjF t)).take k = (mkT t.length (conjF t)) := List.take_of_length_le (by rw [HLT.out]; omega)
      rw [this] at hg
      exact hg.rows (by rw [HLT.out]; omega) HV.out
    case pos =>
      obtain ⟨w2, rfl⟩ : ∃ w2 : World, w2 = wr := ⟨_, rfl⟩
      have hxa : Ext w2 (w2.alloc (.cells #[] 2)) := (Ext.refl _).alloc _
      have hi0 := GrowI.lit (e := 2) (base := w2.heap.size) (w := w2) (Nat.le_refl _)
      go_wp2
      have HRL := Lib.hid (show (row (mkT t.length (conjF t)) k).length = t.length by rw [row_mkT _ _ _ hkl, length_partRow])
      have HO := Lib.hid hg.lt
      go_loopw [5, 6] (fun v y wr => ∃ j : Nat, j ≤ t.length ∧ y = .int .i64 j ∧ GrowI 2 w2.heap.size wr v ((row (mkT t.length (conjF t)) k).take j) ∧ v ≠ .slice none 0 0 ∧ Ext w2 wr) (fun _ y _ => t.length - (intOf y).toNat)
      case atStart => exact ⟨0, Nat.zero_le _, rfl, hi0, by simp, hxa⟩
      case round =>
        clear hxa hi0
        obtain ⟨j, hj, rfl, hi, hvr, hx2⟩ := hrel
        have HVR := Lib.hid hvr
        clear hvr
        by_cases hjl : j < t.length
        case neg =>
          have hta : (row (mkT t.length (conjF t)) k).take j = row (mkT t.length (conjF t)) k := List.take_of_length_le (by rw [HRL.out]; omega)
          rw [hta] at hi
          obtain ⟨br, cr, rfl, hri, hrb, hrb2⟩ := hi.row HVR.out
          have hgw := hg.ext hx2
          have hne : some br ≠ u3.ownBlock := fun e => by have := HO.out br e.symm; omega
          have HTL := Lib.hid (show ((mkT t.length (conjF t)).take k).length = k by rw [List.length_take, HLT.out]; omega)
          clear hg
          go_wp2_with (at_builtin; refine wpList_append_row rfl _ _ 22 26 rfl Try.underlying22 infoSl w.heap.size _ _ rfl (hgw.ext (ext_box _ _ _)) _ br cr _ rfl (cell_new _ _ _) (hri.ext (ext_box _ _ _)) (by rw [HRL.out]; omega) hne (by rw [HTL.out]; omega) (by have := hx.size; have := hx2.size; simp; omega) ?_)
          intro v' w3 hg3 hgr hv3
          have hx3 : Ext w w3 := (hx.trans (hx2.trans (ext_box _ _ _))).grown hgr (hgw.ext (ext_box _ _ _)).own.choose_spec (Nat.le_refl _)
          clear hgr hne hgw
          go_wp2
          go_roundw
          case rel => exact ⟨k + 1, by omega, by go_num, by rw [take_row _ _ (by rw [HLT.out]; exact hkl)]; exact hg3, hv3, hx3⟩
          case measure => simp [intOf]; omega
        case pos =>
          have hp := HB.out k hkl
          obtain ⟨d1, s1, m1, r1, l1⟩ := (hc.ext hx).read HG.out.1 rfl hkl
          obtain ⟨e1, i1, i2⟩ := l1 j hjl
          obtain ⟨d2, s2, m2, r2, l2⟩ := (hc.ext hx).read HG.out.1 rfl (x := (ent t k j).toNat) (by omega)
          obtain ⟨e2, i3, i4⟩ := l2 (backF t k).toNat (by omega)
          rw [conjF_def] at e2 i3 i4
          have i5 : backF t k < (t.length : Int) := by omega
          have p1 := hx2.cell r1
          have p2 := hx2.cell r2
          have p3 := hx2.cell e1
          have p4 := hx2.cell e2
          clear l1 l2
          have HLJ := Lib.hid (show ((row (mkT t.length (conjF t)) k).take j).length = j by rw [List.length_take, HRL.out]; omega)
          go_wp2_with fail
          go_region_held3 (fun w' => w'.cell? ⟨b, o + k, none⟩ = some (.slice (some ⟨d1, s1, none⟩) t.length m1) ∧ w'.cell? ⟨b, o + (ent t k j).toNat, none⟩ = some (.slice (some ⟨d2, s2, none⟩) t.length m2) ∧ w'.cell? ⟨d1, s1 + j, none⟩ = some (.int .i64 (ent t k j)) ∧ w'.cell? ⟨d2, s2 + (backF t k).toNat, none⟩ = some (.int .i64 (conjF t k j)))
            ((refine ⟨?_, ?_, ?_, ?_⟩ <;> (repeat first | (with_reducible assumption) | (with_reducible refine Ext.cell hx3 ?_) |  (with_reducible exact kc_new) | ((with_reducible refine kc_newE ?_); (simp; done)) | ((with_reducible refine kc_newEa ?_); (simp; done)) | ((with_reducible refine kc_newEb ?_); (simp; done)) | (with_reducible apply kc_alloc) | (with_reducible apply kc_drewN) | (with_reducible apply kc_drew) | ((with_reducible refine kc_set ?_ ?_); (first | (simp only []; omega) | (simp; omega) | (focus (simp; done)))) | ((with_reducible refine kc_set2 ?_ ?_); (focus (simp; done))) | (with_reducible refine kc_same (v := .slice none 0 0) ?_))))
            (first
              | (go_at_call 135; refine (l10Back_any t _ k _ (hv.ext ((hx.trans hx2).trans (by (repeat first | (with_reducible exact Ext.refl _) | (with_reducible assumption) | (with_reducible apply Ext.drew) | (with_reducible apply kx_drewN) | (with_reducible apply kx_alloc) | ((with_reducible refine kx_set ?_ ?_); (first | (simp only []; omega) | (simp; omega) | (focus (simp; done)))) )))) hkl).mono ?_; rintro e w' ⟨rfl, rfl⟩)
              | (refine step_append_int (by rfl) _ _ 26 2 (by rfl) Try.underlying26 infoInt w2.heap.size _ _ (by rfl) (hi.ext (by (repeat first | (with_reducible exact Ext.refl _) | (with_reducible assumption) | (with_reducible apply Ext.drew) | (with_reducible apply kx_drewN) | (with_reducible apply kx_alloc) | ((with_reducible refine kx_set ?_ ?_); (first | (simp only []; omega) | (simp; omega) | (focus (simp; done)))) ))) _ _ (by rfl) (by (repeat first | (with_reducible assumption) |  (with_reducible exact kc_new) | ((with_reducible refine kc_newE ?_); (simp; done)) | ((with_reducible refine kc_newEa ?_); (simp; done)) | ((with_reducible refine kc_newEb ?_); (simp; done)) | (with_reducible apply kc_alloc) | (with_reducible apply kc_drewN) | (with_reducible apply kc_drew) | ((with_reducible refine kc_set ?_ ?_); (first | (simp only []; omega) | (simp; omega) | (focus (simp; done)))) | ((with_reducible refine kc_set2 ?_ ?_); (focus (simp; done))) | (with_reducible refine kc_same (v := .slice none 0 0) ?_))) (by rw [HLJ.out]; omega) (by have := hx2.size; simp; omega) ?_; intro v' w3 hi3 hgr hv3; have hx3 : Ext w2 w3 := Ext.grown (hx2.trans (by (repeat first | (with_reducible exact Ext.refl _) | (with_reducible assumption) | (with_reducible apply Ext.drew) | (with_reducible apply kx_drewN) | (with_reducible apply kx_alloc) | ((with_reducible refine kx_set ?_ ?_); (first | (simp only []; omega) | (simp; omega) | (focus (simp; done)))) ))) hgr (hi.ext (by (repeat first | (with_reducible exact Ext.refl _) | (with_reducible assumption) | (with_reducible apply Ext.drew) | (with_reducible apply kx_drewN) | (with_reducible apply kx_alloc) | ((with_reducible refine kx_set ?_ ?_); (first | (simp only []; omega) | (simp; omega) | (focus (simp; done)))) ))) (Nat.le_refl _)))
          all_goals
            go_wp2
            go_roundw
            case rel => exact ⟨j + 1, by omega, by go_num, by
              rw [take_ix _ _ (by rw [HRL.out]; exact hjl), row_mkT _ _ _ hkl, ix_partRow _ _ _ _ _ hjl, if_pos hjl]
              rw [row_mkT _ _ _ hkl] at hi3
              exact hi3, hv3, hx3⟩
            case measure => simp [intOf]; omega

set_option maxRecDepth 100000 in
theorem l10Normal_any (t : List (List Int)) (v : Value) (m : Nat) (w : World) (hv : Rows w v t) (hG : GroupOk t) (hm : m < 2 ^ t.length) :
    Calls Try.prog 86 #[v, .int .i64 m] w fun e w' => e = .returned (.bool (normB t m)) ∧ Ext w w' := by
  obtain ⟨hlen, b, o, c, rfl, hc⟩ := id hv
  have h12 := hG.1.2.1
  have H62 := Lib.hid (lt62 h12 hm)
  have HG := Lib.hid hG
  have HCB := Lib.hid (fun x y (hx : x < t.length) (hy : y < t.length) => conjF_bd hG hx hy)
  clear hG hm
  go_enter Try.func86, Try.ntmps86
  go_wp2_with fail
  refine (l10Inner_any t _ _ hv HG.out).mono ?_
  rintro e w1 ⟨v1, rfl, hr1, hx1⟩
  have HLT := Lib.hid (length_mkT t.length (conjF t))
  obtain ⟨-, b1, o1, c1, rfl, hc1⟩ := hr1
  rw [HLT.out]
  clear hc
  go_wp2
  go_loop [6] (fun i => ∃ k : Nat, k ≤ t.length ∧ i = .int .i64 k ∧ NormTo t m t.length k) (fun i => t.length - (intOf i).toNat)
  case atStart => exact ⟨0, Nat.zero_le _, rfl, NormTo.zero _ _ _⟩
  case round =>
    obtain ⟨k, hk, rfl, hct⟩ := hrel
    by_cases hkl : k < t.length
    case neg =>
      go_wp2
      go_ret
      have hkk : k = t.length := by omega
      subst hkk
      exact ⟨ret_bool (normB_yes hct).symm, hx1⟩
    case pos =>
      obtain ⟨d1, s1, m1, r1, l1, -⟩ := hc1.get (i := k) (by rw [HLT.out]; exact hkl)
      have HRL := Lib.hid (length_row_mkT t.length (conjF t) k hkl)
      rw [HRL.out] at r1
      have HL1 := Lib.hid l1
      clear l1
      go_wp2
      go_loop [7] (fun i => ∃ j : Nat, j ≤ t.length ∧ i = .int .i64 j ∧ NormRow t m k j) (fun i => t.length - (intOf i).toNat)
      case atStart => exact ⟨0, Nat.zero_le _, rfl, NormRow.zero _ _ _⟩
      case round =>
        obtain ⟨j, hj, rfl, hcr⟩ := hrel
        by_cases hjl : j < t.length
        case neg =>
          go_wp2
          go_round
          case rel => exact ⟨k + 1, by omega, by go_num, hct.succ (hcr.mono (by omega))⟩
          case measure => simp [intOf]; omega
        case pos =>
          cases hby : bitB m j with
          | false =>
            have q1 := bit_zero hby H62.out
            go_wp2
            go_round
            case rel => exact ⟨j + 1, by omega, by go_num, hcr.succ (fun h => by rw [hby] at h; cases h)⟩
            case measure => simp [intOf]; omega
          | true =>
            have q1 := bit_one hby
            have e1 := HL1.out.ent HRL.out hjl
            rw [ent_mkT _ _ _ _ hkl hjl] at e1
            have bd := HCB.out k j hkl hjl
            cases hb : bitB m (conjF t k j).toNat with
            | false =>
              have q3 := bit_zero hb H62.out
              go_wp2
              go_ret
              exact ⟨ret_bool (normB_no hkl hjl hby hb).symm, hx1⟩
            | true =>
              have q3 := bit_one hb
              go_wp2
              go_round
              case rel => exact ⟨j + 1, by omega, by go_num, hcr.succ (fun _ => hb)⟩
              case measure => simp [intOf]; omega

set_option maxRecDepth 100000 in
set_option maxHeartbeats 1000000 in
theorem isNormal_any (t : List (List Int)) (v : Value) (m : Nat) (w : World) (hv : Rows w v t) (hG : GroupOk t) (hm : m < 2 ^ t.length) :
    Calls Try.prog 90 #[v, .int .i64 m] w fun e w' => e = .returned (.bool (normB t m)) ∧ Ext w w' := by
  obtain ⟨hlen, b, o, c, rfl, hc⟩ := id hv
  have h12 := hG.1.2.1
  have H62 := Lib.hid (lt62 h12 hm)
  have HG := Lib.hid hG
  have HM := Lib.hid hm
  have HB := Lib.hid (fun x (hx : x < t.length) => backF_ok hG hx)
  have HE := Lib.hid (fun i (h : i < (elemsL m).length) => elemsL_get (k := t.length) HM.out (by omega) h)
  have hlL := elemsL_len m
  clear hG hm
  go_enter Try.func90, Try.ntmps90
  go_wp2_with fail
  refine (groupInverses_any t _ _ hv).mono ?_
  rintro e w1 ⟨b1, c1, rfl, hi1, hx1⟩
  have hcw := hc.ext hx1
  clear hc
  have HI := Lib.hid hi1
  clear hi1
  go_wp2
  go_loopw [13] (fun i wr => ∃ k : Nat, k ≤ t.length ∧ i = .int .i64 k ∧ NormTo t m t.length k ∧ Ext w1 wr) (fun i _ => t.length - (intOf i).toNat)
  case atStart => exact ⟨0, Nat.zero_le _, rfl, NormTo.zero _ _ _, Ext.refl _⟩
  case round =>
    obtain ⟨k, hk, rfl, hct, hx⟩ := hrel
    by_cases hkl : k < t.length
    case neg =>
      go_wp2
      go_ret
      have hkk : k = t.length := by omega
      subst hkk
      exact ⟨ret_bool (normB_yes hct).symm, hx1.trans hx⟩
    case pos =>
      have hp := HB.out k hkl
      have i5 : backF t k < (t.length : Int) := by omega
      have HCT := Lib.hid hct
      clear hct
      obtain ⟨w2, rfl⟩ : ∃ z : World, z = wr := ⟨_, rfl⟩
      go_wp2_with fail
      refine (elementsOf_any m _ H62.out).mono ?_
      rintro e w3 ⟨v3, rfl, hr3, hx3⟩
      obtain ⟨a3, c3, rfl, hr⟩ := hr3
      have HR := Lib.hid hr
      clear hr
      replace hx := hx.trans hx3
      obtain ⟨d1, s1, m1, r1, l1⟩ := (hcw.ext hx).read HG.out.1 rfl hkl
      have ib := (HI.out.ext hx) k (by rw [length_backs]; exact hkl)
      rw [ix_backs _ _ hkl, Nat.zero_add] at ib
      have L1 := Lib.hid l1
      clear l1 hx3
      go_wp2
      go_loopw [19] (fun i wr => ∃ j : Nat, j ≤ (elemsL m).length ∧ i = .int .i64 j ∧ NormL t m k j ∧ Ext w3 wr) (fun i _ => (elemsL m).length - (intOf i).toNat)
      case atStart => exact ⟨0, Nat.zero_le _, rfl, NormL.zero _ _ _, Ext.refl _⟩
      case round =>
        obtain ⟨j, hj, rfl, hnl, hx4⟩ := hrel
        have HNL := Lib.hid hnl
        clear hnl
        by_cases hjl : j < (elemsL m).length
        case neg =>
          have hjj : j = (elemsL m).length := by omega
          subst hjj
          go_wp2
          go_roundw
          case rel => exact ⟨k + 1, by omega, by go_num, HCT.out.succ (HNL.out.row HM.out h12), hx.trans hx4⟩
          case measure => simp [intOf]; omega
        case pos =>
          obtain ⟨gb, go', rfl, hgi⟩ := HR.out (ne_nil_of_lt hjl)
          obtain ⟨y, hy, bY, ey⟩ := HE.out j hjl
          have e3 := (hgi.ext hx4) j hjl
          rw [ey] at e3
          have EY := Lib.hid ey
          obtain ⟨e1, i1, i2⟩ := L1.out y hy
          obtain ⟨d2, s2, m2, r2, l2⟩ := (hcw.ext hx).read HG.out.1 rfl (x := (ent t k y).toNat) (by omega)
          obtain ⟨e2, i3, i4⟩ := l2 (backF t k).toNat (by omega)
          rw [conjF_def] at e2 i3 i4
          have p1 := hx4.cell r1
          have p2 := hx4.cell r2
          have p3 := hx4.cell e1
          have p4 := hx4.cell e2
          have p5 := hx4.cell ib
          have HBY := Lib.hid bY
          clear l2 ey hgi bY
          cases hb : bitB m (conjF t k y).toNat with
          | false =>
            go_wp2
            go_quiet ((go_at_call 106; exact Calls.quiet_of_same ((hasBit_ent m (conjF t k y) _ (by omega) (by omega)).mono fun _ _ ⟨h1, h2⟩ => ⟨by rw [hb] at h1; exact h1, h2.symm⟩)))
            go_wp2
            go_ret
            exact ⟨ret_bool (normB_no hkl hy HBY.out hb).symm, hx1.trans (hx.trans (hx4.drewN _))⟩
          | true =>
            go_wp2
            go_quiet ((go_at_call 106; exact Calls.quiet_of_same ((hasBit_ent m (conjF t k y) _ (by omega) (by omega)).mono fun _ _ ⟨h1, h2⟩ => ⟨by rw [hb] at h1; exact h1, h2.symm⟩)))
            go_wp2
            go_roundw
            case rel => exact ⟨j + 1, by omega, by go_num, HNL.out.succ (by rw [EY.out, Int.toNat_natCast]; exact hb), hx4.drewN _⟩
            case measure => simp [intOf]; omega

end Go.Proofs.Ytjcpeenalbgacaa

/-
  Contracts of ClassesOf: reference and program; numbering, orbits.
-/
namespace Go.Proofs.Ytjcpeenalbgacaa
set_option linter.unusedVariables false
set_option linter.unusedSimpArgs false
open Go.RowKit
attribute [local go_sem ↓] Go.wp_at_zero Go.wp_at_succ

/-- the numbers below n -/
@[irreducible] def idL (n : Nat) : List Int := mkL n (fun i => (i : Int))
theorem length_idL (n : Nat) : (idL n).length = n := by unfold idL; exact length_mkL _ _
theorem ix_idL (n i : Nat) (h : i < n) : ix (idL n) i = (i : Int) := by unfold idL; exact ix_mkL _ _ _ h

theorem slicesIndex_r (l : List Int) (v : Value) (n : Int) (w : World) (hv : IntsR w v l) (hlen : l.length ≤ 1048576) :
    Calls Try.prog 144 #[v, .int .i64 n] w fun e w' => e = .returned (.int .i64 (indexOf l n)) ∧ w = w' := by
  obtain ⟨a, c, rfl, hr⟩ := hv
  have HR := Lib.hid hr
  clear hr
  go_enter Try.func144, Try.ntmps144
  go_wp2
  go_loop [8] (fun i => ∃ k : Nat, k ≤ l.length ∧ i = .int .i64 k ∧ indexOf l n = indexFrom n (l.drop k) k) (fun i => l.length - (intOf i).toNat)
  case atStart => exact ⟨0, Nat.zero_le _, rfl, by unfold indexOf; rfl⟩
  case round =>
    obtain ⟨k, hk, rfl, hr⟩ := hrel
    have Hr := Lib.hid hr
    clear hr
    by_cases hlt : k < l.length
    · obtain ⟨b, o, rfl, hc⟩ := HR.out (ne_nil_of_lt hlt)
      have hcell := hc k hlt
      clear hc
      by_cases he : (n == ix l k) = true
      · go_wp2
        go_ret
        exact ⟨ret_int (by rw [Hr.out, indexFrom_hit l n k hlt (eq_of_beq he).symm]), rfl⟩
      · have he' : (n == ix l k) = false := by simpa using he
        have hne : ¬ ix l k = n := fun h => he (by rw [h]; exact beq_self_eq_true n)
        have HN := Lib.hid hne
        clear he hne
        go_wp2
        go_round
        case rel => exact ⟨k + 1, by omega, by go_num, by rw [Hr.out, indexFrom_miss l n k hlt HN.out]⟩
        case measure => simp [intOf]; omega
    · go_wp2
      go_ret
      exact ⟨ret_int (by rw [Hr.out, indexFrom_end l n k (by omega)]), rfl⟩

set_option maxRecDepth 100000 in
theorem numbered_any (l : List Int) (v : Value) (w : World) (hv : Ints w v l) :
    Calls Try.prog 126 #[v] w fun e w' => ∃ b c, e = .returned (.slice (some ⟨b, 0, none⟩) l.length c) ∧ OwnI w.heap.size w'.heap.size w' b 0 (numL l) ∧ Ext w w' := by
  obtain ⟨hlen, b, o, c, rfl, hc⟩ := id hv
  have hmk := run_make_row' (P := Try.prog) 26 2 (.int .i64 0) 8 Try.underlying26 infoInt rfl .i64 .i64 l.length (by omega) (by omega)
  go_enter Try.func126, Try.ntmps126
  go_wp2_with fail
  clear hmk
  have hx0 : Ext w (w.alloc (.cells (madeCells #[Value.int .i64 0] l.length) 2)) := (Ext.refl _).alloc _
  have hr0 := World.rowIs_made w (.int .i64 0) l.length 2
  have hz0 : w.heap.size + 1 = (w.alloc (.cells (madeCells #[Value.int .i64 0] l.length) 2)).heap.size := by simp
  go_loopw [3, 13] (fun s i wr => ∃ k : Nat, k ≤ l.length ∧ i = .int .i64 k ∧ GrowI 2 (w.heap.size + 1) wr s (seenTo l k) ∧ wr.rowIs w.heap.size 2 l.length (fun i => .int .i64 (copyTo (numL l) k i)) ∧ Ext w wr ∧ w.heap.size + 1 ≤ wr.heap.size) (fun _ i _ => l.length - (intOf i).toNat)
  case atStart => exact ⟨0, Nat.zero_le _, rfl, GrowI.nil _ _ _, hr0.congr (fun i hi => by rw [copyTo_zero]), hx0, by omega⟩
  case round =>
    clear hx0 hr0 hz0
    obtain ⟨k, hk, rfl, hs, hrow, hx, hz⟩ := hrel
    have hsl := seenTo_len l k
    by_cases hlt : k < l.length
    case neg =>
      go_wp2
      go_ret
      have hkk : k = l.length := by omega
      subst hkk
      exact ⟨w.heap.size, l.length, rfl, ownI_of_row hrow (by rw [length_numL]; omega) (fun i hi => by rw [length_numL] at hi; rw [copyTo_all _ _ _ hi]) (Nat.le_refl _) hrow.lt, hx⟩
    case pos =>
      have hsr := Lib.hid ((hs.ownIV (hi := wr.heap.size) (by omega) (Nat.le_refl _)).toR)
      have e1 := (hc.ext hx) k hlt
      have e2 := hrow.cell hlt
      have e3 := hrow.frozen k
      obtain ⟨sa, sc, rfl⟩ := hs.slice
      cases hb : hasB (seenTo l k) (ix l k) with
      | true =>
        have hpos := hasB_iff.1 hb
        have HO := Lib.hid (numF_old hb)
        have HS := Lib.hid (seenTo_old hb)
        go_wp2_with (go_at_call 144; refine (slicesIndex_r (seenTo l k) _ _ _ hsr.out (by omega)).mono ?_; rintro e w' ⟨rfl, rfl⟩)
        go_roundw
        case rel => exact ⟨k + 1, by omega, by go_num, by rw [HS.out]; exact ⟨hs.1, by
            rcases hs.2 with h1 | ⟨g, cap, cur, h1, h2, h3, h4⟩
            · exact .inl h1
            · exact .inr ⟨g, cap, cur, h1, h2, by rw [Below.heap_setCell _ _ _ _ (by simp only []; omega)]; exact h3, h4⟩⟩, (hrow.set k (.int .i64 (indexOf (seenTo l k) (ix l k)))).congr (fun i hi => by rw [copyTo_succ, ix_numL _ _ hlt, HO.out]; split <;> rfl), hx.setNew (Nat.le_refl _) _, by simpa using hz⟩
        case measure => simp [intOf]; omega
      | false =>
        have hneg : indexOf (seenTo l k) (ix l k) < 0 := by have := hasB_no.1 hb; omega
        have HO := Lib.hid (numF_new hb)
        have HS := Lib.hid (seenTo_new hb)
        have hlt2 : w.heap.size < wr.heap.size := by omega
        go_wp2_with (first | (go_at_call 144; refine (slicesIndex_r (seenTo l k) _ _ _ hsr.out (by omega)).mono ?_; rintro e w' ⟨rfl, rfl⟩) | (at_builtin; refine wpList_append_int rfl _ _ 26 2 rfl Try.underlying26 infoInt (w.heap.size + 1) _ _ rfl (hs.alloc _) _ _ rfl (cell_new _ _ _) (by omega) (by simp; omega) ?_))
        intro v' w3 hi3 hgr hv3
        have hrow3 : w3.rowIs w.heap.size 2 l.length (fun i => .int .i64 (copyTo (numL l) k i)) := hrow.of_block (by
          rw [hgr.block w.heap.size (by simp; omega) (fun e => by have := (World.ownsRow.lt hs _ e.symm).1; omega)]
          exact (ext_box wr _ _).block _ hlt2)
        have hx3 : Ext w w3 := Ext.grown (hx.trans (ext_box _ _ _)) hgr (hs.alloc _) (by omega)
        have hz3 := hgr.size
        have e4 := hrow3.cell hlt
        have e5 := hrow3.frozen k
        clear hgr hs hrow e2 e3
        go_wp2
        go_roundw
        case rel => exact ⟨k + 1, by omega, by go_num, by rw [HS.out]; exact ⟨hi3.1, by
            rcases hi3.2 with h1 | ⟨g, cap, cur, h1, h2, h3, h4⟩
            · exact .inl h1
            · exact .inr ⟨g, cap, cur, h1, h2, by rw [Below.heap_setCell _ _ _ _ (by simp only []; omega)]; exact h3, h4⟩⟩, (hrow3.set k (.int .i64 ((seenTo l k).length : Int))).congr (fun i hi => by rw [copyTo_succ, ix_numL _ _ hlt, HO.out]; split <;> rfl), hx3.setNew (Nat.le_refl _) _, by simp at hz3 ⊢; omega⟩
        case measure => simp [intOf]; omega

end Go.Proofs.Ytjcpeenalbgacaa
