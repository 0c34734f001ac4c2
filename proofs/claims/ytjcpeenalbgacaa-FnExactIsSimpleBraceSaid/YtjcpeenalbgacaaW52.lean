/-
  Contracts of SubbracesOf, LeftIdealsOf, IsIdeal, IsSimpleBrace: reference and program.
-/
import Derived.Test.YtjcpeenalbgacaaProg
import Derived.Deep.DeepCutAuto
import Derived.Deep.RegionWith
import Derived.Deep.RegionHeld3
import Derived.Deep.DrawnRows
import Derived.Test.YtjcpeenalbgacaaBase
import Derived.Test.YtjcpeenalbgacaaBase2
import Derived.Test.YtjcpeenalbgacaaRet
import Derived.Test.YtjcpeenalbgacaaSteps
import Derived.Test.YtjcpeenalbgacaaGrow
import Derived.Test.YtjcpeenalbgacaaGrowR
import Derived.Test.YtjcpeenalbgacaaPure1
import Derived.Test.YtjcpeenalbgacaaPureOrd
import Derived.Test.YtjcpeenalbgacaaPureInv
import Derived.Test.YtjcpeenalbgacaaPureTurn
import Derived.Test.YtjcpeenalbgacaaPureConj
import Derived.Test.YtjcpeenalbgacaaPureSet
import Derived.Test.YtjcpeenalbgacaaPureNorm
import Derived.Test.YtjcpeenalbgacaaPureBr
import Derived.Test.YtjcpeenalbgacaaPureIdl
import Derived.Test.YtjcpeenalbgacaaW1
import Derived.Test.YtjcpeenalbgacaaW3
import Derived.Test.YtjcpeenalbgacaaW6
import Derived.Test.YtjcpeenalbgacaaW8
import Derived.Test.YtjcpeenalbgacaaW11
import Derived.Test.YtjcpeenalbgacaaW12
import Derived.Test.YtjcpeenalbgacaaW13
import Derived.Test.YtjcpeenalbgacaaW20
import Derived.Test.YtjcpeenalbgacaaW26
import Derived.Test.YtjcpeenalbgacaaW28
import Derived.Test.YtjcpeenalbgacaaW29
import Derived.Test.YtjcpeenalbgacaaW33
import Derived.Test.YtjcpeenalbgacaaW34
import Derived.Test.YtjcpeenalbgacaaW37
import Derived.Test.YtjcpeenalbgacaaW41
import Derived.Test.YtjcpeenalbgacaaW42
import Derived.Test.YtjcpeenalbgacaaW50
import Derived.Test.YtjcpeenalbgacaaK2
import Derived.Test.YtjcpeenalbgacaaK3
namespace Go.Proofs.Ytjcpeenalbgacaa
set_option linter.unusedVariables false
set_option linter.unusedSimpArgs false
open Go.RowKit
attribute [local go_sem ↓] Go.wp_at_zero Go.wp_at_succ

set_option maxRecDepth 100000 in
set_option maxHeartbeats 1000000 in
theorem SubbracesOf_spec (t u : List (List Int)) (v y : Value) (w : World) (hv : Rows w v t) (hy : Rows w y u) :
    Calls Try.prog 16 #[.agg #[v, y]] w (RetIC (ifB t u (sbL t u) []) (codeB t u) w) := by
  obtain ⟨hlen, b, o, c, rfl, hc⟩ := id hv
  obtain ⟨hlen2, b2, o2, c2, rfl, hc2⟩ := id hy
  have hX := ext_boxB w (.slice (some ⟨b, o, none⟩) t.length c) (.slice (some ⟨b2, o2, none⟩) u.length c2) 29
  have k0 := cell_new2a w (.slice (some ⟨b, o, none⟩) t.length c) (.slice (some ⟨b2, o2, none⟩) u.length c2) 29
  have k1 := cell_new2b w (.slice (some ⟨b, o, none⟩) t.length c) (.slice (some ⟨b2, o2, none⟩) u.length c2) 29
  cases hb : braceB t u with
  | false =>
    rw [ifB_no hb, codeB_no hb]
    clear hc hc2
    go_enter Try.func16, Try.ntmps16
    go_wp2_with fail
    refine (l11Is_any t u _ _ _ (hv.ext hX) (hy.ext hX)).mono ?_
    rintro e wn ⟨rfl, hx⟩
    replace hX := hX.trans hx
    replace k0 := hx.cell k0
    replace k1 := hx.cell k1
    clear hx
    rw [hb]
    go_wp2
    go_ret2
    exact ⟨_, rfl, IntsR.nil _ _, hX⟩
  | true =>
    rw [ifB_yes hb, codeB_yes hb]
    obtain ⟨hG, hU, hL⟩ := braceB_ok hb
    have HL := Lib.hid hL
    have HG := Lib.hid hG
    have HU := Lib.hid hU
    have h12 := hG.1.2.1
    have HBR := Lib.hid hb
    clear hL hG hU
    go_enter Try.func16, Try.ntmps16
    go_wp2_with fail
    refine (l11Is_any t u _ _ _ (hv.ext hX) (hy.ext hX)).mono ?_
    rintro e wn ⟨rfl, hx⟩
    replace hX := hX.trans hx
    replace k0 := hx.cell k0
    replace k1 := hx.cell k1
    clear hx
    rw [hb]
    clear hb
    have h62 : 1 ≤ t.length := HG.out.1.1
    have HSL := Lib.hid (subsL_len (t := t) h12)
    have HD := Lib.hid (subsL_def t)
    have HFI := Lib.hid (filt_sb t u)
    go_wp2_with fail
    refine (l10Subgroups_any t _ _ (hv.ext hX) HG.out.1).mono ?_
    rintro e w3 ⟨v3, rfl, ho3, hne3, hx⟩
    obtain ⟨hl3, a3, c3, rfl, hc3⟩ := ho3
    have HC3 := Lib.hid hc3
    have zX3 := hX.size
    have z3 := hx.size
    replace hX := hX.trans hx
    replace k0 := hx.cell k0
    replace k1 := hx.cell k1
    clear hc3 hne3 hx
    go_wp2
    have hx0 : Ext w3 (w3.alloc (.cells #[] 2)) := (Ext.refl _).alloc _
    have hg0 := GrowI.lit (e := 2) (base := w3.heap.size) (w := w3) (Nat.le_refl _)
    go_loopw [5, 6] (fun s i wr => ∃ k : Nat, k ≤ (subsL t).length ∧ i = .int .i64 k ∧ GrowI 2 w3.heap.size wr s (takeF (subsL t) (closedB u) k) ∧ Ext w3 wr) (fun _ i _ => (subsL t).length - (intOf i).toNat)
    case atStart => exact ⟨0, Nat.zero_le _, rfl, by rw [takeF_zero]; exact hg0, hx0⟩
    case round =>
      clear hx0 hg0
      obtain ⟨k, hk, rfl, hg, hx⟩ := hrel
      have hln := takeF_len (subsL t) (closedB u) k
      have hsl := HSL.out
      have j0 := hx.cell k0
      have j1 := hx.cell k1
      by_cases hkl : k < (subsL t).length
      case neg =>
        have hkk : k = (subsL t).length := by omega
        subst hkk
        have hfin := (hg.ownIV (hi := wr.heap.size) (by omega) (Nat.le_refl _))
        rw [HFI.out] at hfin
        go_wp2
        go_ret2
        exact ⟨_, rfl, hfin.toR, hX.trans hx⟩
      case pos =>
        obtain ⟨m, hm, hsm, em⟩ := subsTo_ix (p := subB t) (k := 2 ^ t.length) (i := k) (by rw [← HD.out]; exact hkl)
        rw [← HD.out] at em
        obtain ⟨b5, o5, rfl, ho5⟩ := HC3.out (ne_nil_of_lt hkl)
        have e5 := ho5.2.2.1 k hkl
        rw [em] at e5
        have e6 := hx.cell e5
        have EM := Lib.hid em
        have HM := Lib.hid hm
        have HMU := Lib.hid (show m < 2 ^ u.length by rw [← HL.out]; exact hm)
        have hkl' : (k : Int) < ((subsL t).length : Int) := by omega
        have HTY := Lib.hid (takeF_yes (q := closedB u) hkl em)
        have HTN := Lib.hid (takeF_no (q := closedB u) hkl em)
        clear em hsm hm ho5
        cases hq : (closedB u) m with
        | false =>
          go_wp2_with fail
          go_region_held3 (fun w' => w'.cell? ⟨w.heap.size, 0, none⟩ = some (.slice (some ⟨b, o, none⟩) t.length c) ∧ w'.cell? ⟨w.heap.size, 1, none⟩ = some (.slice (some ⟨b2, o2, none⟩) u.length c2) ∧ w'.cell? ⟨b5, o5 + k, none⟩ = some (.int .i64 m))
            ((refine ⟨?_, ?_, ?_⟩ <;> (repeat first | (with_reducible assumption) | (with_reducible refine Ext.cell hx7 ?_) |  (with_reducible exact kc_new) | ((with_reducible refine kc_newE ?_); (simp; done)) | ((with_reducible refine kc_newEa ?_); (simp; done)) | ((with_reducible refine kc_newEb ?_); (simp; done)) | (with_reducible apply kc_alloc) | (with_reducible apply kc_drewN) | (with_reducible apply kc_drew) | ((with_reducible refine kc_set ?_ ?_); (first | (simp only []; omega) | (simp; omega) | (focus (simp; done)))) | ((with_reducible refine kc_set2 ?_ ?_); (focus (simp; done))) | (with_reducible refine kc_same (v := .slice none 0 0) ?_))))
            ((go_at_call 61; refine (l04Closed_ext u _ m _ (hy.ext ((hX.trans hx).trans (by (repeat first | (with_reducible exact Ext.refl _) | (with_reducible assumption) | (with_reducible apply Ext.drew) | (with_reducible apply kx_drewN) | (with_reducible apply kx_alloc) | ((with_reducible refine kx_set ?_ ?_); (first | (simp only []; omega) | (simp; omega) | (focus (simp; done)))) | (with_reducible refine Ext.trans ?_ hx7) )))) HU.out.1 HMU.out).mono ?_; rintro e w7 ⟨rfl, hx7⟩; rw [hq]))
          all_goals
            have hx8 : Ext w3 w7 := hx.trans (Ext.trans (Ext.drew (Ext.refl _)) hx7)
            have hg8 := hg.ext (Ext.trans (Ext.drew (Ext.refl _)) hx7)
            go_wp2
            go_roundw
            case rel => exact ⟨k + 1, by omega, by go_num, by rw [HTN.out hq]; exact hg8, hx8⟩
            case measure => simp [intOf]; omega
        | true =>
          go_wp2_with fail
          go_region_held3 (fun w' => w'.cell? ⟨w.heap.size, 0, none⟩ = some (.slice (some ⟨b, o, none⟩) t.length c) ∧ w'.cell? ⟨w.heap.size, 1, none⟩ = some (.slice (some ⟨b2, o2, none⟩) u.length c2) ∧ w'.cell? ⟨b5, o5 + k, none⟩ = some (.int .i64 m))
            ((refine ⟨?_, ?_, ?_⟩ <;> (repeat first | (with_reducible assumption) | (with_reducible refine Ext.cell hx7 ?_) |  (with_reducible exact kc_new) | ((with_reducible refine kc_newE ?_); (simp; done)) | ((with_reducible refine kc_newEa ?_); (simp; done)) | ((with_reducible refine kc_newEb ?_); (simp; done)) | (with_reducible apply kc_alloc) | (with_reducible apply kc_drewN) | (with_reducible apply kc_drew) | ((with_reducible refine kc_set ?_ ?_); (first | (simp only []; omega) | (simp; omega) | (focus (simp; done)))) | ((with_reducible refine kc_set2 ?_ ?_); (focus (simp; done))) | (with_reducible refine kc_same (v := .slice none 0 0) ?_))))
            ((go_at_call 61; refine (l04Closed_ext u _ m _ (hy.ext ((hX.trans hx).trans (by (repeat first | (with_reducible exact Ext.refl _) | (with_reducible assumption) | (with_reducible apply Ext.drew) | (with_reducible apply kx_drewN) | (with_reducible apply kx_alloc) | ((with_reducible refine kx_set ?_ ?_); (first | (simp only []; omega) | (simp; omega) | (focus (simp; done)))) | (with_reducible refine Ext.trans ?_ hx7) )))) HU.out.1 HMU.out).mono ?_; rintro e w7 ⟨rfl, hx7⟩; rw [hq]))
          all_goals
            have hx8 : Ext w3 w7 := hx.trans (Ext.trans (Ext.drew (Ext.refl _)) hx7)
            have hg8 := hg.ext (Ext.trans (Ext.drew (Ext.refl _)) hx7)
            have e8 := hx8.cell e5
            go_wp2_with (at_builtin; refine wpList_append_int rfl _ _ 26 2 rfl Try.underlying26 infoInt w3.heap.size _ _ rfl (hg8.alloc _) _ _ rfl (cell_new _ _ _) (by omega) (by have := hx8.size; simp; omega) ?_)
            intro v' w9 hi9 hgr hv9
            have hx9 : Ext w3 w9 := (hx8.trans (ext_box _ _ _)).grown hgr (hg8.alloc _) (Nat.le_refl _)
            clear hgr
            go_wp2
            go_roundw
            case rel => exact ⟨k + 1, by omega, by go_num, by rw [HTY.out hq]; exact hi9, hx9⟩
            case measure => simp [intOf]; omega

set_option maxRecDepth 100000 in
set_option maxHeartbeats 1000000 in
theorem LeftIdealsOf_spec (t u : List (List Int)) (v y : Value) (w : World) (hv : Rows w v t) (hy : Rows w y u) :
    Calls Try.prog 34 #[.agg #[v, y]] w (RetIC (ifB t u (liL t u) []) (codeB t u) w) := by
  obtain ⟨hlen, b, o, c, rfl, hc⟩ := id hv
  obtain ⟨hlen2, b2, o2, c2, rfl, hc2⟩ := id hy
  have hX := ext_boxB w (.slice (some ⟨b, o, none⟩) t.length c) (.slice (some ⟨b2, o2, none⟩) u.length c2) 29
  have k0 := cell_new2a w (.slice (some ⟨b, o, none⟩) t.length c) (.slice (some ⟨b2, o2, none⟩) u.length c2) 29
  have k1 := cell_new2b w (.slice (some ⟨b, o, none⟩) t.length c) (.slice (some ⟨b2, o2, none⟩) u.length c2) 29
  cases hb : braceB t u with
  | false =>
    rw [ifB_no hb, codeB_no hb]
    clear hc hc2
    go_enter Try.func34, Try.ntmps34
    go_wp2_with fail
    refine (l11Is_any t u _ _ _ (hv.ext hX) (hy.ext hX)).mono ?_
    rintro e wn ⟨rfl, hx⟩
    replace hX := hX.trans hx
    replace k0 := hx.cell k0
    replace k1 := hx.cell k1
    clear hx
    rw [hb]
    go_wp2
    go_ret2
    exact ⟨_, rfl, IntsR.nil _ _, hX⟩
  | true =>
    rw [ifB_yes hb, codeB_yes hb]
    obtain ⟨hG, hU, hL⟩ := braceB_ok hb
    have HL := Lib.hid hL
    have HG := Lib.hid hG
    have HU := Lib.hid hU
    have h12 := hG.1.2.1
    have HBR := Lib.hid hb
    clear hL hG hU
    go_enter Try.func34, Try.ntmps34
    go_wp2_with fail
    refine (l11Is_any t u _ _ _ (hv.ext hX) (hy.ext hX)).mono ?_
    rintro e wn ⟨rfl, hx⟩
    replace hX := hX.trans hx
    replace k0 := hx.cell k0
    replace k1 := hx.cell k1
    clear hx
    rw [hb]
    clear hb
    have h62 : 1 ≤ t.length := HG.out.1.1
    have HSL := Lib.hid (subsL_len (t := t) h12)
    have HD := Lib.hid (subsL_def t)
    have HFI := Lib.hid (filt_li t u)
    go_wp2_with fail
    refine (l10Subgroups_any t _ _ (hv.ext hX) HG.out.1).mono ?_
    rintro e w3 ⟨v3, rfl, ho3, hne3, hx⟩
    obtain ⟨hl3, a3, c3, rfl, hc3⟩ := ho3
    have HC3 := Lib.hid hc3
    have zX3 := hX.size
    have z3 := hx.size
    replace hX := hX.trans hx
    replace k0 := hx.cell k0
    replace k1 := hx.cell k1
    clear hc3 hne3 hx
    go_wp2
    have hx0 : Ext w3 (w3.alloc (.cells #[] 2)) := (Ext.refl _).alloc _
    have hg0 := GrowI.lit (e := 2) (base := w3.heap.size) (w := w3) (Nat.le_refl _)
    go_loopw [5, 6] (fun s i wr => ∃ k : Nat, k ≤ (subsL t).length ∧ i = .int .i64 k ∧ GrowI 2 w3.heap.size wr s (takeF (subsL t) (leftB t u) k) ∧ Ext w3 wr) (fun _ i _ => (subsL t).length - (intOf i).toNat)
    case atStart => exact ⟨0, Nat.zero_le _, rfl, by rw [takeF_zero]; exact hg0, hx0⟩
    case round =>
      clear hx0 hg0
      obtain ⟨k, hk, rfl, hg, hx⟩ := hrel
      have hln := takeF_len (subsL t) (leftB t u) k
      have hsl := HSL.out
      have j0 := hx.cell k0
      have j1 := hx.cell k1
      by_cases hkl : k < (subsL t).length
      case neg =>
        have hkk : k = (subsL t).length := by omega
        subst hkk
        have hfin := (hg.ownIV (hi := wr.heap.size) (by omega) (Nat.le_refl _))
        rw [HFI.out] at hfin
        go_wp2
        go_ret2
        exact ⟨_, rfl, hfin.toR, hX.trans hx⟩
      case pos =>
        obtain ⟨m, hm, hsm, em⟩ := subsTo_ix (p := subB t) (k := 2 ^ t.length) (i := k) (by rw [← HD.out]; exact hkl)
        rw [← HD.out] at em
        obtain ⟨b5, o5, rfl, ho5⟩ := HC3.out (ne_nil_of_lt hkl)
        have e5 := ho5.2.2.1 k hkl
        rw [em] at e5
        have e6 := hx.cell e5
        have EM := Lib.hid em
        have HM := Lib.hid hm
        have HMU := Lib.hid (show m < 2 ^ u.length by rw [← HL.out]; exact hm)
        have hkl' : (k : Int) < ((subsL t).length : Int) := by omega
        have HTY := Lib.hid (takeF_yes (q := leftB t u) hkl em)
        have HTN := Lib.hid (takeF_no (q := leftB t u) hkl em)
        clear em hsm hm ho5
        cases hq : (leftB t u) m with
        | false =>
          go_wp2_with fail
          go_region_held3 (fun w' => w'.cell? ⟨w.heap.size, 0, none⟩ = some (.slice (some ⟨b, o, none⟩) t.length c) ∧ w'.cell? ⟨w.heap.size, 1, none⟩ = some (.slice (some ⟨b2, o2, none⟩) u.length c2) ∧ w'.cell? ⟨b5, o5 + k, none⟩ = some (.int .i64 m))
            ((refine ⟨?_, ?_, ?_⟩ <;> (repeat first | (with_reducible assumption) | (with_reducible refine Ext.cell hx7 ?_) |  (with_reducible exact kc_new) | ((with_reducible refine kc_newE ?_); (simp; done)) | ((with_reducible refine kc_newEa ?_); (simp; done)) | ((with_reducible refine kc_newEb ?_); (simp; done)) | (with_reducible apply kc_alloc) | (with_reducible apply kc_drewN) | (with_reducible apply kc_drew) | ((with_reducible refine kc_set ?_ ?_); (first | (simp only []; omega) | (simp; omega) | (focus (simp; done)))) | ((with_reducible refine kc_set2 ?_ ?_); (focus (simp; done))) | (with_reducible refine kc_same (v := .slice none 0 0) ?_))))
            ((go_at_call 75; refine (l12Left_any t u _ _ m _ (hv.ext ((hX.trans hx).trans (by (repeat first | (with_reducible exact Ext.refl _) | (with_reducible assumption) | (with_reducible apply Ext.drew) | (with_reducible apply kx_drewN) | (with_reducible apply kx_alloc) | ((with_reducible refine kx_set ?_ ?_); (first | (simp only []; omega) | (simp; omega) | (focus (simp; done)))) | (with_reducible refine Ext.trans ?_ hx7) )))) (hy.ext ((hX.trans hx).trans (by (repeat first | (with_reducible exact Ext.refl _) | (with_reducible assumption) | (with_reducible apply Ext.drew) | (with_reducible apply kx_drewN) | (with_reducible apply kx_alloc) | ((with_reducible refine kx_set ?_ ?_); (first | (simp only []; omega) | (simp; omega) | (focus (simp; done)))) | (with_reducible refine Ext.trans ?_ hx7) )))) HG.out HU.out HL.out HM.out).mono ?_; rintro e w7 ⟨rfl, hx7⟩; rw [hq]))
          all_goals
            have hx8 : Ext w3 w7 := hx.trans (Ext.trans (Ext.drew (Ext.refl _)) hx7)
            have hg8 := hg.ext (Ext.trans (Ext.drew (Ext.refl _)) hx7)
            go_wp2
            go_roundw
            case rel => exact ⟨k + 1, by omega, by go_num, by rw [HTN.out hq]; exact hg8, hx8⟩
            case measure => simp [intOf]; omega
        | true =>
          go_wp2_with fail
          go_region_held3 (fun w' => w'.cell? ⟨w.heap.size, 0, none⟩ = some (.slice (some ⟨b, o, none⟩) t.length c) ∧ w'.cell? ⟨w.heap.size, 1, none⟩ = some (.slice (some ⟨b2, o2, none⟩) u.length c2) ∧ w'.cell? ⟨b5, o5 + k, none⟩ = some (.int .i64 m))
            ((refine ⟨?_, ?_, ?_⟩ <;> (repeat first | (with_reducible assumption) | (with_reducible refine Ext.cell hx7 ?_) |  (with_reducible exact kc_new) | ((with_reducible refine kc_newE ?_); (simp; done)) | ((with_reducible refine kc_newEa ?_); (simp; done)) | ((with_reducible refine kc_newEb ?_); (simp; done)) | (with_reducible apply kc_alloc) | (with_reducible apply kc_drewN) | (with_reducible apply kc_drew) | ((with_reducible refine kc_set ?_ ?_); (first | (simp only []; omega) | (simp; omega) | (focus (simp; done)))) | ((with_reducible refine kc_set2 ?_ ?_); (focus (simp; done))) | (with_reducible refine kc_same (v := .slice none 0 0) ?_))))
            ((go_at_call 75; refine (l12Left_any t u _ _ m _ (hv.ext ((hX.trans hx).trans (by (repeat first | (with_reducible exact Ext.refl _) | (with_reducible assumption) | (with_reducible apply Ext.drew) | (with_reducible apply kx_drewN) | (with_reducible apply kx_alloc) | ((with_reducible refine kx_set ?_ ?_); (first | (simp only []; omega) | (simp; omega) | (focus (simp; done)))) | (with_reducible refine Ext.trans ?_ hx7) )))) (hy.ext ((hX.trans hx).trans (by (repeat first | (with_reducible exact Ext.refl _) | (with_reducible assumption) | (with_reducible apply Ext.drew) | (with_reducible apply kx_drewN) | (with_reducible apply kx_alloc) | ((with_reducible refine kx_set ?_ ?_); (first | (simp only []; omega) | (simp; omega) | (focus (simp; done)))) | (with_reducible refine Ext.trans ?_ hx7) )))) HG.out HU.out HL.out HM.out).mono ?_; rintro e w7 ⟨rfl, hx7⟩; rw [hq]))
          all_goals
            have hx8 : Ext w3 w7 := hx.trans (Ext.trans (Ext.drew (Ext.refl _)) hx7)
            have hg8 := hg.ext (Ext.trans (Ext.drew (Ext.refl _)) hx7)
            have e8 := hx8.cell e5
            go_wp2_with (at_builtin; refine wpList_append_int rfl _ _ 26 2 rfl Try.underlying26 infoInt w3.heap.size _ _ rfl (hg8.alloc _) _ _ rfl (cell_new _ _ _) (by omega) (by have := hx8.size; simp; omega) ?_)
            intro v' w9 hi9 hgr hv9
            have hx9 : Ext w3 w9 := (hx8.trans (ext_box _ _ _)).grown hgr (hg8.alloc _) (Nat.le_refl _)
            clear hgr
            go_wp2
            go_roundw
            case rel => exact ⟨k + 1, by omega, by go_num, by rw [HTY.out hq]; exact hi9, hx9⟩
            case measure => simp [intOf]; omega

set_option maxRecDepth 100000 in
set_option maxHeartbeats 1000000 in
theorem l12Ideals_any (t u : List (List Int)) (v y : Value) (w : World) (hv : Rows w v t) (hy : Rows w y u) (hG : GroupOk t) (hU : GroupOk u) (hl : t.length = u.length) :
    Calls Try.prog 83 #[.agg #[v, y]] w fun e w' => ∃ v, e = .returned v ∧ (∃ a c, v = .slice a (idl t u).length c) ∧ IntsR w' v (idl t u) ∧ Ext w w' := by
  obtain ⟨hlen, b, o, c, rfl, hc⟩ := id hv
  obtain ⟨hlen2, b2, o2, c2, rfl, hc2⟩ := id hy
  have hX := ext_boxB w (.slice (some ⟨b, o, none⟩) t.length c) (.slice (some ⟨b2, o2, none⟩) u.length c2) 29
  have k0 := cell_new2a w (.slice (some ⟨b, o, none⟩) t.length c) (.slice (some ⟨b2, o2, none⟩) u.length c2) 29
  have k1 := cell_new2b w (.slice (some ⟨b, o, none⟩) t.length c) (.slice (some ⟨b2, o2, none⟩) u.length c2) 29
  have h12 := hG.1.2.1
  have HG := Lib.hid hG
  have HU := Lib.hid hU
  have HL := Lib.hid hl
  clear hG hU hl
  go_enter Try.func83, Try.ntmps83
  have h62 : 1 ≤ t.length := HG.out.1.1
  have HSL := Lib.hid (subsL_len (t := t) h12)
  have HD := Lib.hid (subsL_def t)
  have HFI := Lib.hid (filt_id t u)
  go_wp2_with fail
  refine (l10Subgroups_any t _ _ (hv.ext hX) HG.out.1).mono ?_
  rintro e w3 ⟨v3, rfl, ho3, hne3, hx⟩
  obtain ⟨hl3, a3, c3, rfl, hc3⟩ := ho3
  have HC3 := Lib.hid hc3
  have zX3 := hX.size
  have z3 := hx.size
  replace hX := hX.trans hx
  replace k0 := hx.cell k0
  replace k1 := hx.cell k1
  clear hc3 hne3 hx
  go_wp2
  have hx0 : Ext w3 (w3.alloc (.cells #[] 2)) := (Ext.refl _).alloc _
  have hg0 := GrowI.lit (e := 2) (base := w3.heap.size) (w := w3) (Nat.le_refl _)
  go_loopw [4, 5] (fun s i wr => ∃ k : Nat, k ≤ (subsL t).length ∧ i = .int .i64 k ∧ GrowI 2 w3.heap.size wr s (takeF (subsL t) (idB t u) k) ∧ Ext w3 wr) (fun _ i _ => (subsL t).length - (intOf i).toNat)
  case atStart => exact ⟨0, Nat.zero_le _, rfl, by rw [takeF_zero]; exact hg0, hx0⟩
  case round =>
    clear hx0 hg0
    obtain ⟨k, hk, rfl, hg, hx⟩ := hrel
    have hln := takeF_len (subsL t) (idB t u) k
    have hsl := HSL.out
    have j0 := hx.cell k0
    have j1 := hx.cell k1
    by_cases hkl : k < (subsL t).length
    case neg =>
      have hkk : k = (subsL t).length := by omega
      subst hkk
      have hfin := (hg.ownIV (hi := wr.heap.size) (by omega) (Nat.le_refl _))
      rw [HFI.out] at hfin
      go_wp2
      go_ret
      obtain ⟨-, fa, fc, rfl, -⟩ := id hfin
      exact ⟨_, rfl, ⟨fa, fc, rfl⟩, hfin.toR, hX.trans hx⟩
    case pos =>
      obtain ⟨m, hm, hsm, em⟩ := subsTo_ix (p := subB t) (k := 2 ^ t.length) (i := k) (by rw [← HD.out]; exact hkl)
      rw [← HD.out] at em
      obtain ⟨b5, o5, rfl, ho5⟩ := HC3.out (ne_nil_of_lt hkl)
      have e5 := ho5.2.2.1 k hkl
      rw [em] at e5
      have e6 := hx.cell e5
      have EM := Lib.hid em
      have HM := Lib.hid hm
      have HMU := Lib.hid (show m < 2 ^ u.length by rw [← HL.out]; exact hm)
      have hkl' : (k : Int) < ((subsL t).length : Int) := by omega
      have HTY := Lib.hid (takeF_yes (q := idB t u) hkl em)
      have HTN := Lib.hid (takeF_no (q := idB t u) hkl em)
      clear em hsm hm ho5
      cases hq : (idB t u) m with
      | false =>
        go_wp2_with fail
        go_region_held3 (fun w' => w'.cell? ⟨w.heap.size, 0, none⟩ = some (.slice (some ⟨b, o, none⟩) t.length c) ∧ w'.cell? ⟨w.heap.size, 1, none⟩ = some (.slice (some ⟨b2, o2, none⟩) u.length c2) ∧ w'.cell? ⟨b5, o5 + k, none⟩ = some (.int .i64 m))
          ((refine ⟨?_, ?_, ?_⟩ <;> (repeat first | (with_reducible assumption) | (with_reducible refine Ext.cell hx7 ?_) |  (with_reducible exact kc_new) | ((with_reducible refine kc_newE ?_); (simp; done)) | ((with_reducible refine kc_newEa ?_); (simp; done)) | ((with_reducible refine kc_newEb ?_); (simp; done)) | (with_reducible apply kc_alloc) | (with_reducible apply kc_drewN) | (with_reducible apply kc_drew) | ((with_reducible refine kc_set ?_ ?_); (first | (simp only []; omega) | (simp; omega) | (focus (simp; done)))) | ((with_reducible refine kc_set2 ?_ ?_); (focus (simp; done))) | (with_reducible refine kc_same (v := .slice none 0 0) ?_))))
          ((go_at_call 80; refine (l12Ideal_any t u _ _ m _ (hv.ext ((hX.trans hx).trans (by (repeat first | (with_reducible exact Ext.refl _) | (with_reducible assumption) | (with_reducible apply Ext.drew) | (with_reducible apply kx_drewN) | (with_reducible apply kx_alloc) | ((with_reducible refine kx_set ?_ ?_); (first | (simp only []; omega) | (simp; omega) | (focus (simp; done)))) | (with_reducible refine Ext.trans ?_ hx7) )))) (hy.ext ((hX.trans hx).trans (by (repeat first | (with_reducible exact Ext.refl _) | (with_reducible assumption) | (with_reducible apply Ext.drew) | (with_reducible apply kx_drewN) | (with_reducible apply kx_alloc) | ((with_reducible refine kx_set ?_ ?_); (first | (simp only []; omega) | (simp; omega) | (focus (simp; done)))) | (with_reducible refine Ext.trans ?_ hx7) )))) HG.out HU.out HL.out HM.out).mono ?_; rintro e w7 ⟨rfl, hx7⟩; rw [hq]))
        all_goals
          have hx8 : Ext w3 w7 := hx.trans (Ext.trans (Ext.drew (Ext.refl _)) hx7)
          have hg8 := hg.ext (Ext.trans (Ext.drew (Ext.refl _)) hx7)
          go_wp2
          go_roundw
          case rel => exact ⟨k + 1, by omega, by go_num, by rw [HTN.out hq]; exact hg8, hx8⟩
          case measure => simp [intOf]; omega
      | true =>
        go_wp2_with fail
        go_region_held3 (fun w' => w'.cell? ⟨w.heap.size, 0, none⟩ = some (.slice (some ⟨b, o, none⟩) t.length c) ∧ w'.cell? ⟨w.heap.size, 1, none⟩ = some (.slice (some ⟨b2, o2, none⟩) u.length c2) ∧ w'.cell? ⟨b5, o5 + k, none⟩ = some (.int .i64 m))
          ((refine ⟨?_, ?_, ?_⟩ <;> (repeat first | (with_reducible assumption) | (with_reducible refine Ext.cell hx7 ?_) |  (with_reducible exact kc_new) | ((with_reducible refine kc_newE ?_); (simp; done)) | ((with_reducible refine kc_newEa ?_); (simp; done)) | ((with_reducible refine kc_newEb ?_); (simp; done)) | (with_reducible apply kc_alloc) | (with_reducible apply kc_drewN) | (with_reducible apply kc_drew) | ((with_reducible refine kc_set ?_ ?_); (first | (simp only []; omega) | (simp; omega) | (focus (simp; done)))) | ((with_reducible refine kc_set2 ?_ ?_); (focus (simp; done))) | (with_reducible refine kc_same (v := .slice none 0 0) ?_))))
          ((go_at_call 80; refine (l12Ideal_any t u _ _ m _ (hv.ext ((hX.trans hx).trans (by (repeat first | (with_reducible exact Ext.refl _) | (with_reducible assumption) | (with_reducible apply Ext.drew) | (with_reducible apply kx_drewN) | (with_reducible apply kx_alloc) | ((with_reducible refine kx_set ?_ ?_); (first | (simp only []; omega) | (simp; omega) | (focus (simp; done)))) | (with_reducible refine Ext.trans ?_ hx7) )))) (hy.ext ((hX.trans hx).trans (by (repeat first | (with_reducible exact Ext.refl _) | (with_reducible assumption) | (with_reducible apply Ext.drew) | (with_reducible apply kx_drewN) | (with_reducible apply kx_alloc) | ((with_reducible refine kx_set ?_ ?_); (first | (simp only []; omega) | (simp; omega) | (focus (simp; done)))) | (with_reducible refine Ext.trans ?_ hx7) )))) HG.out HU.out HL.out HM.out).mono ?_; rintro e w7 ⟨rfl, hx7⟩; rw [hq]))
        all_goals
          have hx8 : Ext w3 w7 := hx.trans (Ext.trans (Ext.drew (Ext.refl _)) hx7)
          have hg8 := hg.ext (Ext.trans (Ext.drew (Ext.refl _)) hx7)
          have e8 := hx8.cell e5
          go_wp2_with (at_builtin; refine wpList_append_int rfl _ _ 26 2 rfl Try.underlying26 infoInt w3.heap.size _ _ rfl (hg8.alloc _) _ _ rfl (cell_new _ _ _) (by omega) (by have := hx8.size; simp; omega) ?_)
          intro v' w9 hi9 hgr hv9
          have hx9 : Ext w3 w9 := (hx8.trans (ext_box _ _ _)).grown hgr (hg8.alloc _) (Nat.le_refl _)
          clear hgr
          go_wp2
          go_roundw
          case rel => exact ⟨k + 1, by omega, by go_num, by rw [HTY.out hq]; exact hi9, hx9⟩
          case measure => simp [intOf]; omega

theorem SubbracesOf1_any (t u : List (List Int)) (v y : Value) (m B : Nat) (w : World) (hB : w.cell? ⟨B, 0, none⟩ = some v) (hB1 : w.cell? ⟨B, 1, none⟩ = some y) (hv : Rows w v t) (hy : Rows w y u) (hG : GroupOk t) (hU : GroupOk u) (hl : t.length = u.length) (hm : m < 2 ^ t.length) :
    Calls Try.prog 65 #[.int .i64 m, .pointer (some ⟨B, 0, none⟩)] w fun e w' => e = .returned (.bool (sbB t u m)) ∧ Ext w w' := by
  obtain ⟨hlen, b, o, c, rfl, -⟩ := id hv
  obtain ⟨hlen2, b2, o2, c2, rfl, -⟩ := id hy
  have HG := Lib.hid hG
  have HU := Lib.hid hU
  have HM := Lib.hid hm
  have HMU := Lib.hid (show m < 2 ^ u.length by rw [← hl]; exact hm)
  have HD := Lib.hid (sbB_def t u m)
  clear hG hU hl hm
  cases h0 : subB t m with
  | false =>
    rw [show sbB t u m = false by rw [HD.out, h0]; rfl]
    go_enter Try.func65, Try.ntmps65
    go_wp2_with fail
    refine (isSubgroup_any t _ m _ hv HG.out.1 HM.out).mono ?_
    rintro e w1 ⟨rfl, hx1⟩
    rw [h0]
    go_wp2
    go_ret
    exact ⟨rfl, hx1⟩
  | true =>
    have HS := Lib.hid (show sbB t u m = subB u m by rw [HD.out, h0]; rfl)
    cases h1 : subB u m with
    | false =>
      rw [show sbB t u m = false by rw [HS.out, h1]]
      go_enter Try.func65, Try.ntmps65
      go_wp2_with fail
      refine (isSubgroup_any t _ m _ hv HG.out.1 HM.out).mono ?_
      rintro e w1 ⟨rfl, hx1⟩
      rw [h0]
      have c1 := hx1.cell hB1
      go_wp2_with fail
      refine (isSubgroup_any u _ m _ (hy.ext hx1) HU.out.1 HMU.out).mono ?_
      rintro e w2 ⟨rfl, hx2⟩
      rw [h1]
      go_wp2
      go_ret
      exact ⟨rfl, hx1.trans hx2⟩
    | true =>
      rw [show sbB t u m = true by rw [HS.out, h1]]
      go_enter Try.func65, Try.ntmps65
      go_wp2_with fail
      refine (isSubgroup_any t _ m _ hv HG.out.1 HM.out).mono ?_
      rintro e w1 ⟨rfl, hx1⟩
      rw [h0]
      have c1 := hx1.cell hB1
      go_wp2_with fail
      refine (isSubgroup_any u _ m _ (hy.ext hx1) HU.out.1 HMU.out).mono ?_
      rintro e w2 ⟨rfl, hx2⟩
      rw [h1]
      go_wp2
      go_ret
      exact ⟨rfl, hx1.trans hx2⟩

theorem callSubbracesOf1 (args : Array Value) (w : World) : (callFunc 65 args).run Try.prog w = .ok (.enter 65 args) w :=
  callFunc_enter Try.func65 (by kernel_rfl) rfl args w

theorem leftIdealsOf1_any (t u : List (List Int)) (v y lv : Value) (m B C : Nat) (w : World) (hB : w.cell? ⟨B, 0, none⟩ = some v) (hB1 : w.cell? ⟨B, 1, none⟩ = some y) (hC : w.cell? ⟨C, 0, none⟩ = some lv) (hv : Rows w v t) (hy : Rows w y u) (hlv : Rows w lv (mkT t.length (lamF t u))) (hG : GroupOk t) (hU : GroupOk u) (hl : t.length = u.length) (hm : m < 2 ^ t.length) :
    Calls Try.prog 77 #[.int .i64 m, .pointer (some ⟨B, 0, none⟩), .pointer (some ⟨C, 0, none⟩)] w fun e w' => e = .returned (.bool (liB t u m)) ∧ Ext w w' := by
  obtain ⟨hlen, b, o, c, rfl, -⟩ := id hv
  obtain ⟨hlen2, b2, o2, c2, rfl, -⟩ := id hy
  obtain ⟨hlen3, b3, o3, c3, rfl, -⟩ := id hlv
  have HG := Lib.hid hG
  have HU := Lib.hid hU
  have HM := Lib.hid hm
  have HL := Lib.hid hl
  clear hG hU hl hm
  go_enter Try.func77, Try.ntmps77
  go_wp2_with fail
  refine (isLeftIdeal_any t u _ _ _ m _ hv hy hlv HG.out HU.out HL.out HM.out).mono ?_
  rintro e w1 ⟨rfl, hx1⟩
  go_wp2
  go_ret
  exact ⟨rfl, hx1⟩

theorem call_leftIdealsOf1 (args : Array Value) (w : World) : (callFunc 77 args).run Try.prog w = .ok (.enter 77 args) w :=
  callFunc_enter Try.func77 (by kernel_rfl) rfl args w

theorem idealsOf1_any (t u : List (List Int)) (v y lv : Value) (m B C : Nat) (w : World) (hB : w.cell? ⟨B, 0, none⟩ = some v) (hB1 : w.cell? ⟨B, 1, none⟩ = some y) (hC : w.cell? ⟨C, 0, none⟩ = some lv) (hv : Rows w v t) (hy : Rows w y u) (hlv : Rows w lv (mkT t.length (lamF t u))) (hG : GroupOk t) (hU : GroupOk u) (hl : t.length = u.length) (hm : m < 2 ^ t.length) :
    Calls Try.prog 123 #[.int .i64 m, .pointer (some ⟨B, 0, none⟩), .pointer (some ⟨C, 0, none⟩)] w fun e w' => e = .returned (.bool (idB t u m)) ∧ Ext w w' := by
  obtain ⟨hlen, b, o, c, rfl, -⟩ := id hv
  obtain ⟨hlen2, b2, o2, c2, rfl, -⟩ := id hy
  obtain ⟨hlen3, b3, o3, c3, rfl, -⟩ := id hlv
  have HG := Lib.hid hG
  have HU := Lib.hid hU
  have HM := Lib.hid hm
  have HL := Lib.hid hl
  clear hG hU hl hm
  go_enter Try.func123, Try.ntmps123
  go_wp2_with fail
  refine (isIdeal_any t u _ _ _ m _ hv hy HG.out HU.out HL.out HM.out hlv).mono ?_
  rintro e w1 ⟨rfl, hx1⟩
  go_wp2
  go_ret
  exact ⟨rfl, hx1⟩

theorem call_idealsOf1 (args : Array Value) (w : World) : (callFunc 123 args).run Try.prog w = .ok (.enter 123 args) w :=
  callFunc_enter Try.func123 (by kernel_rfl) rfl args w

set_option maxRecDepth 100000 in
set_option maxHeartbeats 1000000 in
theorem SubbracesOf_impl (t u : List (List Int)) (v y : Value) (w : World) (hv : Rows w v t) (hy : Rows w y u) :
    Calls Try.prog 18 #[.agg #[v, y]] w (NewIC (ifB t u (sbL t u) []) (codeB t u) w) := by
  obtain ⟨hlen, b, o, c, rfl, hc⟩ := id hv
  obtain ⟨hlen2, b2, o2, c2, rfl, hc2⟩ := id hy
  have hX := ext_boxB w (.slice (some ⟨b, o, none⟩) t.length c) (.slice (some ⟨b2, o2, none⟩) u.length c2) 29
  have k0 := cell_new2a w (.slice (some ⟨b, o, none⟩) t.length c) (.slice (some ⟨b2, o2, none⟩) u.length c2) 29
  have k1 := cell_new2b w (.slice (some ⟨b, o, none⟩) t.length c) (.slice (some ⟨b2, o2, none⟩) u.length c2) 29
  cases hb : braceB t u with
  | false =>
    rw [ifB_no hb, codeB_no hb]
    clear hc hc2
    go_enter Try.func18, Try.ntmps18
    go_wp2_with fail
    refine (IsBrace_impl t u _ _ _ (hv.ext hX) (hy.ext hX)).mono ?_
    rintro e wn ⟨rfl, hx⟩
    replace hX := hX.trans hx
    replace k0 := hx.cell k0
    replace k1 := hx.cell k1
    clear hx
    rw [hb]
    go_wp2
    go_ret2
    exact ⟨_, rfl, OwnIV.nil _ _ _, hX⟩
  | true =>
    rw [ifB_yes hb, codeB_yes hb]
    obtain ⟨hG, hU, hL⟩ := braceB_ok hb
    have HL := Lib.hid hL
    have HG := Lib.hid hG
    have HU := Lib.hid hU
    have h12 := hG.1.2.1
    have HBR := Lib.hid hb
    clear hL hG hU
    go_enter Try.func18, Try.ntmps18
    go_wp2_with fail
    refine (IsBrace_impl t u _ _ _ (hv.ext hX) (hy.ext hX)).mono ?_
    rintro e wn ⟨rfl, hx⟩
    replace hX := hX.trans hx
    replace k0 := hx.cell k0
    replace k1 := hx.cell k1
    clear hx
    rw [hb]
    clear hb
    have HF := Lib.hid (show subsTo (fun m => bitB m 0 && sbB t u m) (2 ^ t.length) = sbL t u by rw [odd_of (sb_bit t u), sbL_def])
    have zX := hX.size
    go_wp2_with fail
    refine (setsWith_any t u _ _ (sbB t u) 65 #[.pointer (some ⟨w.heap.size, 0, none⟩)] _ (hv.ext hX) (hy.ext hX) HG.out.1 callSubbracesOf1 (fun w3 m h3 hm => by
      rw [app1]
      exact SubbracesOf1_any t u _ _ m w.heap.size w3 (h3.cell k0) (h3.cell k1) (hv.ext (hX.trans h3)) (hy.ext (hX.trans h3)) HG.out HU.out HL.out hm)).mono ?_
    rintro e w3 ⟨v3, rfl, ho, hx⟩
    rw [HF.out] at ho
    go_wp2
    go_ret2
    exact ⟨_, rfl, ho.mono zX (Nat.le_refl _), hX.trans hx⟩

set_option maxRecDepth 100000 in
set_option maxHeartbeats 1000000 in
theorem LeftIdealsOf_impl (t u : List (List Int)) (v y : Value) (w : World) (hv : Rows w v t) (hy : Rows w y u) :
    Calls Try.prog 35 #[.agg #[v, y]] w (NewIC (ifB t u (liL t u) []) (codeB t u) w) := by
  obtain ⟨hlen, b, o, c, rfl, hc⟩ := id hv
  obtain ⟨hlen2, b2, o2, c2, rfl, hc2⟩ := id hy
  have hX := ext_boxB w (.slice (some ⟨b, o, none⟩) t.length c) (.slice (some ⟨b2, o2, none⟩) u.length c2) 29
  have k0 := cell_new2a w (.slice (some ⟨b, o, none⟩) t.length c) (.slice (some ⟨b2, o2, none⟩) u.length c2) 29
  have k1 := cell_new2b w (.slice (some ⟨b, o, none⟩) t.length c) (.slice (some ⟨b2, o2, none⟩) u.length c2) 29
  cases hb : braceB t u with
  | false =>
    rw [ifB_no hb, codeB_no hb]
    clear hc hc2
    go_enter Try.func35, Try.ntmps35
    go_wp2_with fail
    refine (IsBrace_impl t u _ _ _ (hv.ext hX) (hy.ext hX)).mono ?_
    rintro e wn ⟨rfl, hx⟩
    replace hX := hX.trans hx
    replace k0 := hx.cell k0
    replace k1 := hx.cell k1
    clear hx
    rw [hb]
    go_wp2
    go_ret2
    exact ⟨_, rfl, OwnIV.nil _ _ _, hX⟩
  | true =>
    rw [ifB_yes hb, codeB_yes hb]
    obtain ⟨hG, hU, hL⟩ := braceB_ok hb
    have HL := Lib.hid hL
    have HG := Lib.hid hG
    have HU := Lib.hid hU
    have h12 := hG.1.2.1
    have HBR := Lib.hid hb
    clear hL hG hU
    go_enter Try.func35, Try.ntmps35
    go_wp2_with fail
    refine (IsBrace_impl t u _ _ _ (hv.ext hX) (hy.ext hX)).mono ?_
    rintro e wn ⟨rfl, hx⟩
    replace hX := hX.trans hx
    replace k0 := hx.cell k0
    replace k1 := hx.cell k1
    clear hx
    rw [hb]
    clear hb
    have HF := Lib.hid (show subsTo (fun m => bitB m 0 && liB t u m) (2 ^ t.length) = liL t u by rw [odd_of (li_bit t u), liL_def])
    have zX := hX.size
    have HLT := Lib.hid (length_mkT t.length (lamF t u))
    go_wp2_with fail
    refine (lambdaTable_any t u _ _ _ (hv.ext hX) (hy.ext hX) HG.out HU.out HL.out).mono ?_
    rintro e w4 ⟨b4, c4, rfl, ho4, hx⟩
    rw [HLT.out]
    have hrr := (ho4.rowsAt (small_mkT (by omega) _)).rows (by rw [HLT.out]; omega) c4
    rw [HLT.out] at hrr
    have hxB := ext_box w4 (.slice (some ⟨b4, 0, none⟩) t.length c4) 22
    have bB := cell_new w4 (.slice (some ⟨b4, 0, none⟩) t.length c4) 22
    replace hX := (hX.trans hx).trans hxB
    replace k0 := hxB.cell (hx.cell k0)
    replace k1 := hxB.cell (hx.cell k1)
    have HR := Lib.hid (hrr.ext hxB)
    have zB := hxB.size
    have zx := hx.size
    clear ho4 hrr hx hxB
    go_wp2_with fail
    generalize w4.alloc (.cells #[.slice (some ⟨b4, 0, none⟩) t.length c4] 22) = w5 at *
    refine (setsWith_any t u _ _ (liB t u) 77 #[.pointer (some ⟨w.heap.size, 0, none⟩), .pointer (some ⟨w4.heap.size, 0, none⟩)] _ (hv.ext hX) (hy.ext hX) HG.out.1 call_leftIdealsOf1 (fun w6 m h6 hm => by
      rw [app2]
      exact leftIdealsOf1_any t u _ _ _ m w.heap.size w4.heap.size w6 (h6.cell k0) (h6.cell k1) (h6.cell bB) (hv.ext (hX.trans h6)) (hy.ext (hX.trans h6)) (HR.out.ext h6) HG.out HU.out HL.out hm)).mono ?_
    rintro e w6 ⟨v6, rfl, ho, hx⟩
    rw [HF.out] at ho
    go_wp2
    go_ret2
    exact ⟨_, rfl, ho.mono (by omega) (Nat.le_refl _), hX.trans hx⟩

set_option maxRecDepth 100000 in
set_option maxHeartbeats 1000000 in
theorem idealsOf_any (t u : List (List Int)) (v y : Value) (w : World) (hv : Rows w v t) (hy : Rows w y u) (hG : GroupOk t) (hU : GroupOk u) (hl : t.length = u.length) :
    Calls Try.prog 84 #[.agg #[v, y]] w fun e w' => ∃ v, e = .returned v ∧ (∃ a c, v = .slice a (idl t u).length c) ∧ Ext w w' := by
  obtain ⟨hlen, b, o, c, rfl, hc⟩ := id hv
  obtain ⟨hlen2, b2, o2, c2, rfl, hc2⟩ := id hy
  have hX := ext_boxB w (.slice (some ⟨b, o, none⟩) t.length c) (.slice (some ⟨b2, o2, none⟩) u.length c2) 29
  have k0 := cell_new2a w (.slice (some ⟨b, o, none⟩) t.length c) (.slice (some ⟨b2, o2, none⟩) u.length c2) 29
  have k1 := cell_new2b w (.slice (some ⟨b, o, none⟩) t.length c) (.slice (some ⟨b2, o2, none⟩) u.length c2) 29
  have h12 := hG.1.2.1
  have HG := Lib.hid hG
  have HU := Lib.hid hU
  have HL := Lib.hid hl
  have HF := Lib.hid (show subsTo (fun m => bitB m 0 && idB t u m) (2 ^ t.length) = idl t u by rw [odd_of (id_bit t u), idl_def])
  clear hG hU hl hc hc2
  go_enter Try.func84, Try.ntmps84
  have zX := hX.size
  have HLT := Lib.hid (length_mkT t.length (lamF t u))
  go_wp2_with fail
  refine (lambdaTable_any t u _ _ _ (hv.ext hX) (hy.ext hX) HG.out HU.out HL.out).mono ?_
  rintro e w4 ⟨b4, c4, rfl, ho4, hx⟩
  rw [HLT.out]
  have hrr := (ho4.rowsAt (small_mkT (by omega) _)).rows (by rw [HLT.out]; omega) c4
  rw [HLT.out] at hrr
  have hxB := ext_box w4 (.slice (some ⟨b4, 0, none⟩) t.length c4) 22
  have bB := cell_new w4 (.slice (some ⟨b4, 0, none⟩) t.length c4) 22
  replace hX := (hX.trans hx).trans hxB
  replace k0 := hxB.cell (hx.cell k0)
  replace k1 := hxB.cell (hx.cell k1)
  have HR := Lib.hid (hrr.ext hxB)
  have zB := hxB.size
  have zx := hx.size
  clear ho4 hrr hx hxB
  go_wp2_with fail
  generalize w4.alloc (.cells #[.slice (some ⟨b4, 0, none⟩) t.length c4] 22) = w5 at *
  refine (setsWith_any t u _ _ (idB t u) 123 #[.pointer (some ⟨w.heap.size, 0, none⟩), .pointer (some ⟨w4.heap.size, 0, none⟩)] _ (hv.ext hX) (hy.ext hX) HG.out.1 call_idealsOf1 (fun w6 m h6 hm => by
    rw [app2]
    exact idealsOf1_any t u _ _ _ m w.heap.size w4.heap.size w6 (h6.cell k0) (h6.cell k1) (h6.cell bB) (hv.ext (hX.trans h6)) (hy.ext (hX.trans h6)) (HR.out.ext h6) HG.out HU.out HL.out hm)).mono ?_
  rintro e w6 ⟨v6, rfl, ho, hx⟩
  rw [HF.out] at ho
  obtain ⟨-, fa, fc, rfl, -⟩ := ho
  go_wp2
  go_ret
  exact ⟨_, rfl, ⟨fa, fc, rfl⟩, hX.trans hx⟩

end Go.Proofs.Ytjcpeenalbgacaa
