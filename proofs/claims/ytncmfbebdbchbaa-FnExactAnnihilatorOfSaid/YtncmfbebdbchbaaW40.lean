/-
  Contracts of AnnihilatorOf: reference and program.
-/
import Derived.Test.YtncmfbebdbchbaaProg
import Derived.Deep.DeepCutAuto
import Derived.Deep.RegionWith
import Derived.Deep.RegionHeld3
import Derived.Deep.DrawnRows
import Derived.Test.YtncmfbebdbchbaaBase
import Derived.Test.YtncmfbebdbchbaaBase2
import Derived.Test.YtncmfbebdbchbaaRet
import Derived.Test.YtncmfbebdbchbaaSteps
import Derived.Test.YtncmfbebdbchbaaGrow
import Derived.Test.YtncmfbebdbchbaaGrowR
import Derived.Test.YtncmfbebdbchbaaPure1
import Derived.Test.YtncmfbebdbchbaaPureOrd
import Derived.Test.YtncmfbebdbchbaaPureInv
import Derived.Test.YtncmfbebdbchbaaPureTurn
import Derived.Test.YtncmfbebdbchbaaPureConj
import Derived.Test.YtncmfbebdbchbaaPureSet
import Derived.Test.YtncmfbebdbchbaaPureBr
import Derived.Test.YtncmfbebdbchbaaPureSoc
import Derived.Test.YtncmfbebdbchbaaW1
import Derived.Test.YtncmfbebdbchbaaW3
import Derived.Test.YtncmfbebdbchbaaW6
import Derived.Test.YtncmfbebdbchbaaW7
import Derived.Test.YtncmfbebdbchbaaW8
import Derived.Test.YtncmfbebdbchbaaW11
import Derived.Test.YtncmfbebdbchbaaW12
import Derived.Test.YtncmfbebdbchbaaW20
import Derived.Test.YtncmfbebdbchbaaW21
import Derived.Test.YtncmfbebdbchbaaW22
import Derived.Test.YtncmfbebdbchbaaW23
import Derived.Test.YtncmfbebdbchbaaW24
import Derived.Test.YtncmfbebdbchbaaW25
import Derived.Test.YtncmfbebdbchbaaW26
import Derived.Test.YtncmfbebdbchbaaW28
import Derived.Test.YtncmfbebdbchbaaW29
import Derived.Test.YtncmfbebdbchbaaW33
import Derived.Test.YtncmfbebdbchbaaW38
import Derived.Test.YtncmfbebdbchbaaK2
import Derived.Test.YtncmfbebdbchbaaK3
namespace Go.Proofs.Ytncmfbebdbchbaa
set_option linter.unusedVariables false
set_option linter.unusedSimpArgs false
open Go.RowKit
attribute [local go_sem ↓] Go.wp_at_zero Go.wp_at_succ

set_option maxRecDepth 100000 in
set_option maxHeartbeats 1000000 in
theorem AnnihilatorOf_spec (t u : List (List Int)) (v y : Value) (w : World) (hv : Rows w v t) (hy : Rows w y u) :
    Calls Try.prog 49 #[.agg #[v, y]] w (RetII (ifB t u ((annN t u : Nat) : Int) 0) (codeB t u) w) := by
  obtain ⟨hlen, b, o, c, rfl, hc⟩ := id hv
  obtain ⟨hlen2, b2, o2, c2, rfl, hc2⟩ := id hy
  have hX := ext_boxB w (.slice (some ⟨b, o, none⟩) t.length c) (.slice (some ⟨b2, o2, none⟩) u.length c2) 41
  have k0 := cell_new2a w (.slice (some ⟨b, o, none⟩) t.length c) (.slice (some ⟨b2, o2, none⟩) u.length c2) 41
  have k1 := cell_new2b w (.slice (some ⟨b, o, none⟩) t.length c) (.slice (some ⟨b2, o2, none⟩) u.length c2) 41
  cases hb : braceB t u with
  | false =>
    rw [ifB_no hb, codeB_no hb]
    clear hc hc2
    go_enter Try.func49, Try.ntmps49
    go_wp2_with fail
    refine (l11Is_any t u _ _ _ (hv.ext hX) (hy.ext hX)).mono ?_
    rintro e wn ⟨rfl, hx⟩
    replace hX := hX.trans hx
    replace k0 := hx.cell k0
    replace k1 := hx.cell k1
    clear hx
    rw [hb]
    go_wp2
    go_ret2
    exact ⟨rfl, hX⟩
  | true =>
    rw [ifB_yes hb, codeB_yes hb]
    obtain ⟨hG, hU, hL⟩ := braceB_ok hb
    have HL := Lib.hid hL
    have HG := Lib.hid hG
    have HU := Lib.hid hU
    have h12 := hG.1.2.1
    have HBR := Lib.hid hb
    clear hL hG hU
    go_enter Try.func49, Try.ntmps49
    go_wp2_with fail
    refine (l11Is_any t u _ _ _ (hv.ext hX) (hy.ext hX)).mono ?_
    rintro e wn ⟨rfl, hx⟩
    replace hX := hX.trans hx
    replace k0 := hx.cell k0
    replace k1 := hx.cell k1
    clear hx
    rw [hb]
    clear hb
    have ha := ann_spec (u := u) h12 HL.out
    have zX := hX.size
    obtain ⟨w1, rfl⟩ : ∃ z : World, z = wn := ⟨_, rfl⟩
    go_wp2_with fail
    go_region_held3 (fun w' => w'.cell? ⟨w.heap.size, 0, none⟩ = some (.slice (some ⟨b, o, none⟩) t.length c) ∧ w'.cell? ⟨w.heap.size, 1, none⟩ = some (.slice (some ⟨b2, o2, none⟩) u.length c2))
      ((refine ⟨?_, ?_⟩ <;> (repeat first | (with_reducible assumption) | (with_reducible refine Ext.cell hx6 ?_) | (with_reducible refine Ext.cell hx5 ?_) |  (with_reducible exact kc_new) | ((with_reducible refine kc_newE ?_); (simp; done)) | (with_reducible apply kc_alloc) | (with_reducible apply kc_drewN) | (with_reducible apply kc_drew) | ((with_reducible refine kc_set ?_ ?_); (first | (simp only []; omega) | (simp; omega) | (simp; done))) | (with_reducible refine kc_same (v := .slice none 0 0) ?_))))
      (first
        | (go_at_call 79; refine (l12Socle_any t u _ _ _ (hv.ext (hX.trans (by (repeat first | (with_reducible exact Ext.refl _) | (with_reducible assumption) | (with_reducible apply Ext.drew) | (with_reducible apply kx_drewN) | (with_reducible apply kx_alloc) | ((with_reducible refine kx_set ?_ ?_); (first | (simp only []; omega) | (simp; omega) | (simp; done))) | (with_reducible refine Ext.trans ?_ hx6) | (with_reducible refine Ext.trans ?_ hx5) )))) (hy.ext (hX.trans (by (repeat first | (with_reducible exact Ext.refl _) | (with_reducible assumption) | (with_reducible apply Ext.drew) | (with_reducible apply kx_drewN) | (with_reducible apply kx_alloc) | ((with_reducible refine kx_set ?_ ?_); (first | (simp only []; omega) | (simp; omega) | (simp; done))) | (with_reducible refine Ext.trans ?_ hx6) | (with_reducible refine Ext.trans ?_ hx5) )))) HG.out.1 HU.out.1 HL.out).mono ?_; rintro e w5 ⟨rfl, hx5⟩)
        | (go_at_call 89; refine (l10Center_any u _ _ (hy.ext (hX.trans (by (repeat first | (with_reducible exact Ext.refl _) | (with_reducible assumption) | (with_reducible apply Ext.drew) | (with_reducible apply kx_drewN) | (with_reducible apply kx_alloc) | ((with_reducible refine kx_set ?_ ?_); (first | (simp only []; omega) | (simp; omega) | (simp; done))) | (with_reducible refine Ext.trans ?_ hx5) | (with_reducible refine Ext.trans ?_ hx6) )))) HU.out.1).mono ?_; rintro e w6 ⟨rfl, hx6⟩))
    all_goals
      go_wp2
      go_ret2
      first
        | exact ⟨rfl, hX.trans (Ext.trans (Ext.trans (Ext.drew (Ext.refl _)) hx5) hx6)⟩
        | exact ⟨rfl, hX.trans (Ext.trans (Ext.trans (Ext.drew (Ext.refl _)) hx6) hx5)⟩

set_option maxRecDepth 100000 in
set_option maxHeartbeats 1000000 in
theorem AnnihilatorOf_impl (t u : List (List Int)) (v y : Value) (w : World) (hv : Rows w v t) (hy : Rows w y u) :
    Calls Try.prog 50 #[.agg #[v, y]] w (RetII (ifB t u ((annN t u : Nat) : Int) 0) (codeB t u) w) := by
  obtain ⟨hlen, b, o, c, rfl, hc⟩ := id hv
  obtain ⟨hlen2, b2, o2, c2, rfl, hc2⟩ := id hy
  have hX := ext_boxB w (.slice (some ⟨b, o, none⟩) t.length c) (.slice (some ⟨b2, o2, none⟩) u.length c2) 41
  have k0 := cell_new2a w (.slice (some ⟨b, o, none⟩) t.length c) (.slice (some ⟨b2, o2, none⟩) u.length c2) 41
  have k1 := cell_new2b w (.slice (some ⟨b, o, none⟩) t.length c) (.slice (some ⟨b2, o2, none⟩) u.length c2) 41
  cases hb : braceB t u with
  | false =>
    rw [ifB_no hb, codeB_no hb]
    clear hc hc2
    go_enter Try.func50, Try.ntmps50
    go_wp2_with fail
    refine (IsBrace_impl t u _ _ _ (hv.ext hX) (hy.ext hX)).mono ?_
    rintro e wn ⟨rfl, hx⟩
    replace hX := hX.trans hx
    replace k0 := hx.cell k0
    replace k1 := hx.cell k1
    clear hx
    rw [hb]
    go_wp2
    go_ret2
    exact ⟨rfl, hX⟩
  | true =>
    rw [ifB_yes hb, codeB_yes hb]
    obtain ⟨hG, hU, hL⟩ := braceB_ok hb
    have HL := Lib.hid hL
    have HG := Lib.hid hG
    have HU := Lib.hid hU
    have h12 := hG.1.2.1
    have HBR := Lib.hid hb
    clear hL hG hU
    go_enter Try.func50, Try.ntmps50
    go_wp2_with fail
    refine (IsBrace_impl t u _ _ _ (hv.ext hX) (hy.ext hX)).mono ?_
    rintro e wn ⟨rfl, hx⟩
    replace hX := hX.trans hx
    replace k0 := hx.cell k0
    replace k1 := hx.cell k1
    clear hx
    rw [hb]
    clear hb
    have HSN := Lib.hid (socI_nat (u := u) h12)
    have hsl : socN t u < 2 ^ t.length := by rw [socN_def]; exact natSet_lt _ _
    have HSL := Lib.hid hsl
    have H62 := Lib.hid (lt62 h12 hsl)
    have HE := Lib.hid (fun i (h : i < (elemsL (socN t u)).length) => elemsL_get (k := t.length) HSL.out (by omega) h)
    have hlL := elemsL_len (socN t u)
    clear hsl
    go_wp2_with fail
    refine (transposed_any u _ _ (hy.ext hX) HU.out.1).mono ?_
    rintro e w2 ⟨rb, rc, rfl, ho, hx2⟩
    replace k0 := hx2.cell k0
    replace k1 := hx2.cell k1
    replace hX := hX.trans hx2
    have hra := ho.rowsAt (small_turnT (by have := HL.out; omega))
    rw [length_turnT]
    clear ho hx2
    go_wp2_with fail
    refine (socleOf_any t u _ _ _ (hv.ext hX) (hy.ext hX) HG.out.1 HU.out.1 HL.out).mono ?_
    rintro e w3 ⟨rfl, hx3⟩
    rw [HSN.out]
    replace k0 := hx3.cell k0
    replace k1 := hx3.cell k1
    replace hX := hX.trans hx3
    go_wp2_with fail
    refine (elementsOf_any (socN t u) _ H62.out).mono ?_
    rintro e w4 ⟨v4, rfl, hr4, hx4⟩
    obtain ⟨a4, c4, rfl, hr⟩ := hr4
    have HR := Lib.hid hr
    clear hr
    replace k0 := hx4.cell k0
    replace k1 := hx4.cell k1
    replace hX := hX.trans hx4
    replace hra := (hra.ext hx3).ext hx4
    clear hx3 hx4
    go_wp2
    go_loopw [5, 18] (fun s i wr => ∃ k S : Nat, k ≤ (elemsL (socN t u)).length ∧ i = .int .i64 k ∧ s = .int .i64 S ∧ AnnTo t u k S ∧ Ext w4 wr) (fun _ i _ => (elemsL (socN t u)).length - (intOf i).toNat)
    case atStart => exact ⟨0, 0, Nat.zero_le _, rfl, rfl, AnnTo.zero _ _, Ext.refl _⟩
    case round =>
      obtain ⟨k, S, hk, rfl, rfl, hann, hx⟩ := hrel
      have HA := Lib.hid hann
      clear hann
      by_cases hkl : k < (elemsL (socN t u)).length
      case neg =>
        have hkk : k = (elemsL (socN t u)).length := by omega
        subst hkk
        have hdone := AnnTo.done h12 HA.out
        go_wp2
        go_ret2
        exact ⟨ret_two (by rw [hdone]) rfl, hX.trans hx⟩
      case pos =>
        obtain ⟨gb, go', rfl, hgi⟩ := HR.out (ne_nil_of_lt hkl)
        obtain ⟨x, hx', bx, ex⟩ := HE.out k hkl
        have e1 := (hgi.ext hx) k hkl
        rw [ex] at e1
        have EX := Lib.hid ex
        have hlu := HL.out
        have iu : (x : Int) < (u.length : Int) := by omega
        have j1 := hx.cell k1
        obtain ⟨d1, s1, n1, r1, i1, l1⟩ := (hc2.ext (hX.trans hx)).get (i := x) (by omega)
        obtain ⟨d2, s2, n2, r2, i2, l2⟩ := (hra.ext hx).get (i := x) (by rw [length_turnT]; omega)
        rw [Nat.zero_add] at r2
        have E1 := Lib.hid (i1.ints l1 n1)
        have E2 := Lib.hid (i2.ints l2 n2)
        have hcr := comB_row HU.out.1 (x := x) (by omega)
        rw [← hlu] at hcr
        have HCR := Lib.hid hcr
        have HLU := Lib.hid hlu
        have HS62 := Lib.hid (Nat.lt_of_lt_of_le HA.out.1 (Nat.pow_le_pow_right (by decide) (show t.length ≤ 62 by omega)))
        have hor := or_pow HS62.out (x := x) (by omega)
        clear i1 i2 l1 l2 hcr hlu ex hgi bx
        cases hcb : comB u x t.length with
        | true =>
          rw [hcb] at HCR
          go_wp2
          go_quiet ((go_at_call 91; exact Calls.quiet_of ((slicesEqual_dr _ _ _ _ _ (E1.out.ext ((Ext.refl _).drewN _)) (E2.out.ext ((Ext.refl _).drewN _))).mono fun _ _ ⟨h1, h2⟩ => ⟨by rw [HCR.out] at h1; exact h1, h2⟩)))
          go_wp2
          go_roundw
          case rel => exact ⟨k + 1, S ||| 2 ^ x, by omega, by go_num, rfl, HA.out.yes hx' EX.out hcb, hx.drewN _⟩
          case measure => simp [intOf]; omega
        | false =>
          rw [hcb] at HCR
          go_wp2
          go_quiet ((go_at_call 91; exact Calls.quiet_of ((slicesEqual_dr _ _ _ _ _ (E1.out.ext ((Ext.refl _).drewN _)) (E2.out.ext ((Ext.refl _).drewN _))).mono fun _ _ ⟨h1, h2⟩ => ⟨by rw [HCR.out] at h1; exact h1, h2⟩)))
          go_wp2
          go_roundw
          case rel => exact ⟨k + 1, S, by omega, by go_num, rfl, HA.out.no EX.out hcb, hx.drewN _⟩
          case measure => simp [intOf]; omega

end Go.Proofs.Ytncmfbebdbchbaa
