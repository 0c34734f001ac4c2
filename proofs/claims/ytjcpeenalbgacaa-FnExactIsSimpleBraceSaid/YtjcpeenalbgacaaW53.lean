/-
  Contracts of IsIdeal, IsSimpleBrace: reference and program.
-/
import Derived.Test.YtjcpeenalbgacaaProg
import Derived.Deep.DeepCutAuto
import Derived.Deep.RegionWith
import Derived.Deep.RegionHeld3
import Derived.Deep.DrawnRows
import Derived.Test.YtjcpeenalbgacaaBase
import Derived.Test.YtjcpeenalbgacaaBase2
import Derived.Test.YtjcpeenalbgacaaRet
import Derived.Test.YtjcpeenalbgacaaSteps
import Derived.Test.YtjcpeenalbgacaaGrow
import Derived.Test.YtjcpeenalbgacaaGrowR
import Derived.Test.YtjcpeenalbgacaaPure1
import Derived.Test.YtjcpeenalbgacaaPureOrd
import Derived.Test.YtjcpeenalbgacaaPureInv
import Derived.Test.YtjcpeenalbgacaaPureTurn
import Derived.Test.YtjcpeenalbgacaaPureConj
import Derived.Test.YtjcpeenalbgacaaPureSet
import Derived.Test.YtjcpeenalbgacaaPureNorm
import Derived.Test.YtjcpeenalbgacaaPureBr
import Derived.Test.YtjcpeenalbgacaaPureIdl
import Derived.Test.YtjcpeenalbgacaaW1
import Derived.Test.YtjcpeenalbgacaaW3
import Derived.Test.YtjcpeenalbgacaaW6
import Derived.Test.YtjcpeenalbgacaaW8
import Derived.Test.YtjcpeenalbgacaaW11
import Derived.Test.YtjcpeenalbgacaaW12
import Derived.Test.YtjcpeenalbgacaaW13
import Derived.Test.YtjcpeenalbgacaaW20
import Derived.Test.YtjcpeenalbgacaaW26
import Derived.Test.YtjcpeenalbgacaaW28
import Derived.Test.YtjcpeenalbgacaaW29
import Derived.Test.YtjcpeenalbgacaaW33
import Derived.Test.YtjcpeenalbgacaaW34
import Derived.Test.YtjcpeenalbgacaaW37
import Derived.Test.YtjcpeenalbgacaaW41
import Derived.Test.YtjcpeenalbgacaaW42
import Derived.Test.YtjcpeenalbgacaaW50
import Derived.Test.YtjcpeenalbgacaaW52
import Derived.Test.YtjcpeenalbgacaaK2
import Derived.Test.YtjcpeenalbgacaaK3
namespace Go.Proofs.Ytjcpeenalbgacaa
set_option linter.unusedVariables false
set_option linter.unusedSimpArgs false
open Go.RowKit
attribute [local go_sem ↓] Go.wp_at_zero Go.wp_at_succ

/-- the code of a brace and a set; what IsIdeal returns -/
@[irreducible] noncomputable def setC (t u : List (List Int)) (a : Int) : Int := if braceB t u = true then (if inR a 0 (((2 ^ t.length : Nat) : Int) - 1) = true then 0 else 2) else 1
@[irreducible] noncomputable def idV (t u : List (List Int)) (a : Int) : Bool := if setC t u a = 0 then idB t u a.toNat else false
theorem setC_1 {t u a} (h : braceB t u = false) : setC t u a = 1 := by unfold setC; rw [if_neg (by rw [h]; simp)]
theorem setC_2 {t u a} (h : braceB t u = true) (h2 : inR a 0 (((2 ^ t.length : Nat) : Int) - 1) = false) : setC t u a = 2 := by unfold setC; rw [if_pos h, if_neg (by rw [h2]; simp)]
theorem setC_0 {t u a} (h : braceB t u = true) (h2 : inR a 0 (((2 ^ t.length : Nat) : Int) - 1) = true) : setC t u a = 0 := by unfold setC; rw [if_pos h, if_pos h2]
theorem setC_zero {t u a} (h : setC t u a = 0) : braceB t u = true ∧ ∃ m : Nat, a = (m : Int) ∧ m < 2 ^ t.length := by
  unfold setC at h
  split at h
  · rename_i h1
    split at h
    · rename_i h2
      have := inR_iff.1 h2
      obtain ⟨m, rfl⟩ := Int.eq_ofNat_of_zero_le this.1
      exact ⟨h1, m, rfl, by omega⟩
    · omega
  · omega
theorem idV_bad {t u a} (h : setC t u a ≠ 0) : idV t u a = false := by unfold idV; rw [if_neg h]
theorem idV_good {t u} {m : Nat} (h : setC t u m = 0) : idV t u m = idB t u m := by unfold idV; rw [if_pos h, Int.toNat_natCast]
/-- just two ideals -/
@[irreducible] def simB (t u : List (List Int)) : Bool := (((idl t u).length : Int) == 2)
theorem simB_def (t u) : (((idl t u).length : Int) == 2) = simB t u := by unfold simB; rfl

set_option maxRecDepth 100000 in
set_option maxHeartbeats 1000000 in
theorem l12Code_any (t u : List (List Int)) (v y : Value) (a : Int) (w : World) (hv : Rows w v t) (hy : Rows w y u) :
    Calls Try.prog 79 #[.agg #[v, y], .int .i64 a] w fun e w' => e = .returned (.int .i64 (setC t u a)) ∧ Ext w w' := by
  obtain ⟨hlen, b, o, c, rfl, hc⟩ := id hv
  obtain ⟨hlen2, b2, o2, c2, rfl, hc2⟩ := id hy
  have hX := ext_boxB w (.slice (some ⟨b, o, none⟩) t.length c) (.slice (some ⟨b2, o2, none⟩) u.length c2) 29
  have k0 := cell_new2a w (.slice (some ⟨b, o, none⟩) t.length c) (.slice (some ⟨b2, o2, none⟩) u.length c2) 29
  have k1 := cell_new2b w (.slice (some ⟨b, o, none⟩) t.length c) (.slice (some ⟨b2, o2, none⟩) u.length c2) 29
  clear hc hc2
  cases hb : braceB t u with
  | false =>
    rw [setC_1 hb]
    go_enter Try.func79, Try.ntmps79
    go_wp2_with fail
    refine (l11Is_any t u _ _ _ (hv.ext hX) (hy.ext hX)).mono ?_
    rintro e wn ⟨rfl, hx⟩
    replace hX := hX.trans hx
    replace k0 := hx.cell k0
    replace k1 := hx.cell k1
    clear hx
    rw [hb]
    go_wp2
    go_ret
    exact ⟨rfl, hX⟩
  | true =>
    have h12 := (braceB_ok hb).1.1.2.1
    have hp := pow12 h12
    have h1p := Nat.two_pow_pos t.length
    have HW := Lib.hid (wrapPow h12)
    obtain ⟨P, hP⟩ : ∃ P : Nat, P = 2 ^ t.length := ⟨_, rfl⟩
    have hw : wrap64 (2 ^ t.length) = (P : Int) := by rw [HW.out, hP]
    rw [← hP] at hp h1p
    have HP := Lib.hid hP
    clear hP
    cases hin : inR a 0 ((P : Int) - 1) with
    | false =>
      rw [setC_2 hb (by rw [← HP.out]; exact hin)]
      go_enter Try.func79, Try.ntmps79
      go_wp2_with fail
      refine (l11Is_any t u _ _ _ (hv.ext hX) (hy.ext hX)).mono ?_
      rintro e wn ⟨rfl, hx⟩
      replace hX := hX.trans hx
      replace k0 := hx.cell k0
      replace k1 := hx.cell k1
      clear hx
      rw [hb]
      clear hb
      go_wp2_with (go_at_call 121; refine (l01In_any _ _ _ _).mono ?_; rintro e w' ⟨rfl, rfl⟩; rw [hin])
      go_ret
      exact ⟨rfl, hX⟩
    | true =>
      rw [setC_0 hb (by rw [← HP.out]; exact hin)]
      go_enter Try.func79, Try.ntmps79
      go_wp2_with fail
      refine (l11Is_any t u _ _ _ (hv.ext hX) (hy.ext hX)).mono ?_
      rintro e wn ⟨rfl, hx⟩
      replace hX := hX.trans hx
      replace k0 := hx.cell k0
      replace k1 := hx.cell k1
      clear hx
      rw [hb]
      clear hb
      go_wp2_with (go_at_call 121; refine (l01In_any _ _ _ _).mono ?_; rintro e w' ⟨rfl, rfl⟩; rw [hin])
      go_ret
      exact ⟨rfl, hX⟩

set_option maxRecDepth 100000 in
set_option maxHeartbeats 1000000 in
theorem checkBraceSet_any (t u : List (List Int)) (v y : Value) (a : Int) (w : World) (hv : Rows w v t) (hy : Rows w y u) :
    Calls Try.prog 81 #[.agg #[v, y], .int .i64 a] w fun e w' => e = .returned (.int .i64 (setC t u a)) ∧ Ext w w' := by
  obtain ⟨hlen, b, o, c, rfl, hc⟩ := id hv
  obtain ⟨hlen2, b2, o2, c2, rfl, hc2⟩ := id hy
  have hX := ext_boxB w (.slice (some ⟨b, o, none⟩) t.length c) (.slice (some ⟨b2, o2, none⟩) u.length c2) 29
  have k0 := cell_new2a w (.slice (some ⟨b, o, none⟩) t.length c) (.slice (some ⟨b2, o2, none⟩) u.length c2) 29
  have k1 := cell_new2b w (.slice (some ⟨b, o, none⟩) t.length c) (.slice (some ⟨b2, o2, none⟩) u.length c2) 29
  clear hc hc2
  cases hb : braceB t u with
  | false =>
    rw [setC_1 hb]
    go_enter Try.func81, Try.ntmps81
    go_wp2_with fail
    refine (IsBrace_impl t u _ _ _ (hv.ext hX) (hy.ext hX)).mono ?_
    rintro e wn ⟨rfl, hx⟩
    replace hX := hX.trans hx
    replace k0 := hx.cell k0
    replace k1 := hx.cell k1
    clear hx
    rw [hb]
    go_wp2
    go_ret
    exact ⟨rfl, hX⟩
  | true =>
    have h12 := (braceB_ok hb).1.1.2.1
    have hp := pow12 h12
    have h1p := Nat.two_pow_pos t.length
    have HW := Lib.hid (wrapPow h12)
    obtain ⟨P, hP⟩ : ∃ P : Nat, P = 2 ^ t.length := ⟨_, rfl⟩
    have hw : wrap64 (2 ^ t.length) = (P : Int) := by rw [HW.out, hP]
    rw [← hP] at hp h1p
    have HP := Lib.hid hP
    clear hP
    cases hin : inR a 0 ((P : Int) - 1) with
    | false =>
      rw [setC_2 hb (by rw [← HP.out]; exact hin)]
      go_enter Try.func81, Try.ntmps81
      go_wp2_with fail
      refine (IsBrace_impl t u _ _ _ (hv.ext hX) (hy.ext hX)).mono ?_
      rintro e wn ⟨rfl, hx⟩
      replace hX := hX.trans hx
      replace k0 := hx.cell k0
      replace k1 := hx.cell k1
      clear hx
      rw [hb]
      clear hb
      go_wp2_with (go_at_call 122; refine (within_any _ _ _ _).mono ?_; rintro e w' ⟨rfl, rfl⟩; rw [hin])
      go_ret
      exact ⟨rfl, hX⟩
    | true =>
      rw [setC_0 hb (by rw [← HP.out]; exact hin)]
      go_enter Try.func81, Try.ntmps81
      go_wp2_with fail
      refine (IsBrace_impl t u _ _ _ (hv.ext hX) (hy.ext hX)).mono ?_
      rintro e wn ⟨rfl, hx⟩
      replace hX := hX.trans hx
      replace k0 := hx.cell k0
      replace k1 := hx.cell k1
      clear hx
      rw [hb]
      clear hb
      go_wp2_with (go_at_call 122; refine (within_any _ _ _ _).mono ?_; rintro e w' ⟨rfl, rfl⟩; rw [hin])
      go_ret
      exact ⟨rfl, hX⟩

set_option maxRecDepth 100000 in
set_option maxHeartbeats 1000000 in
theorem IsIdeal_spec (t u : List (List Int)) (v y : Value) (a : Int) (w : World) (hv : Rows w v t) (hy : Rows w y u) :
    Calls Try.prog 36 #[.agg #[v, y], .int .i64 a] w (RetBI (idV t u a) (setC t u a) w) := by
  obtain ⟨hlen, b, o, c, rfl, hc⟩ := id hv
  obtain ⟨hlen2, b2, o2, c2, rfl, hc2⟩ := id hy
  have hX := ext_boxB w (.slice (some ⟨b, o, none⟩) t.length c) (.slice (some ⟨b2, o2, none⟩) u.length c2) 29
  have k0 := cell_new2a w (.slice (some ⟨b, o, none⟩) t.length c) (.slice (some ⟨b2, o2, none⟩) u.length c2) 29
  have k1 := cell_new2b w (.slice (some ⟨b, o, none⟩) t.length c) (.slice (some ⟨b2, o2, none⟩) u.length c2) 29
  clear hc hc2
  cases hz : (setC t u a != 0) with
  | true =>
    rw [idV_bad (by simpa using hz)]
    go_enter Try.func36, Try.ntmps36
    go_wp2_with fail
    refine (l12Code_any t u _ _ _ _ (hv.ext hX) (hy.ext hX)).mono ?_
    rintro e wn ⟨rfl, hx⟩
    replace hX := hX.trans hx
    replace k0 := hx.cell k0
    replace k1 := hx.cell k1
    clear hx

    go_wp2
    go_ret2
    exact ⟨rfl, hX⟩
  | false =>
    have hz' : setC t u a = 0 := by simpa using hz
    obtain ⟨hb, m, rfl, hm⟩ := setC_zero hz'
    rw [idV_good hz', hz']
    have HZ := Lib.hid hz'
    have HM := Lib.hid hm
    obtain ⟨hG, hU, hL⟩ := braceB_ok hb
    have HL := Lib.hid hL
    have HG := Lib.hid hG
    have HU := Lib.hid hU
    have h12 := hG.1.2.1
    clear hz hz' hm hb hG hU hL
    go_enter Try.func36, Try.ntmps36
    go_wp2_with fail
    refine (l12Code_any t u _ _ _ _ (hv.ext hX) (hy.ext hX)).mono ?_
    rintro e wn ⟨rfl, hx⟩
    replace hX := hX.trans hx
    replace k0 := hx.cell k0
    replace k1 := hx.cell k1
    clear hx

    rw [HZ.out]
    go_wp2_with fail
    refine (l12Ideal_any t u _ _ m _ (hv.ext hX) (hy.ext hX) HG.out HU.out HL.out HM.out).mono ?_
    rintro e w2 ⟨rfl, hx⟩
    go_wp2
    go_ret2
    exact ⟨rfl, hX.trans hx⟩

set_option maxRecDepth 100000 in
set_option maxHeartbeats 1000000 in
theorem IsIdeal_impl (t u : List (List Int)) (v y : Value) (a : Int) (w : World) (hv : Rows w v t) (hy : Rows w y u) :
    Calls Try.prog 37 #[.agg #[v, y], .int .i64 a] w (RetBI (idV t u a) (setC t u a) w) := by
  obtain ⟨hlen, b, o, c, rfl, hc⟩ := id hv
  obtain ⟨hlen2, b2, o2, c2, rfl, hc2⟩ := id hy
  have hX := ext_boxB w (.slice (some ⟨b, o, none⟩) t.length c) (.slice (some ⟨b2, o2, none⟩) u.length c2) 29
  have k0 := cell_new2a w (.slice (some ⟨b, o, none⟩) t.length c) (.slice (some ⟨b2, o2, none⟩) u.length c2) 29
  have k1 := cell_new2b w (.slice (some ⟨b, o, none⟩) t.length c) (.slice (some ⟨b2, o2, none⟩) u.length c2) 29
  clear hc hc2
  cases hz : (setC t u a != 0) with
  | true =>
    rw [idV_bad (by simpa using hz)]
    go_enter Try.func37, Try.ntmps37
    go_wp2_with fail
    refine (checkBraceSet_any t u _ _ _ _ (hv.ext hX) (hy.ext hX)).mono ?_
    rintro e wn ⟨rfl, hx⟩
    replace hX := hX.trans hx
    replace k0 := hx.cell k0
    replace k1 := hx.cell k1
    clear hx

    go_wp2
    go_ret2
    exact ⟨rfl, hX⟩
  | false =>
    have hz' : setC t u a = 0 := by simpa using hz
    obtain ⟨hb, m, rfl, hm⟩ := setC_zero hz'
    rw [idV_good hz', hz']
    have HZ := Lib.hid hz'
    have HM := Lib.hid hm
    obtain ⟨hG, hU, hL⟩ := braceB_ok hb
    have HL := Lib.hid hL
    have HG := Lib.hid hG
    have HU := Lib.hid hU
    have h12 := hG.1.2.1
    clear hz hz' hm hb hG hU hL
    go_enter Try.func37, Try.ntmps37
    go_wp2_with fail
    refine (checkBraceSet_any t u _ _ _ _ (hv.ext hX) (hy.ext hX)).mono ?_
    rintro e wn ⟨rfl, hx⟩
    replace hX := hX.trans hx
    replace k0 := hx.cell k0
    replace k1 := hx.cell k1
    clear hx

    rw [HZ.out]
    have HLT := Lib.hid (length_mkT t.length (lamF t u))
    obtain ⟨w1, rfl⟩ : ∃ z : World, z = wn := ⟨_, rfl⟩
    go_wp2_with fail
    go_region_held3 (fun w' => w'.cell? ⟨w.heap.size, 0, none⟩ = some (.slice (some ⟨b, o, none⟩) t.length c) ∧ w'.cell? ⟨w.heap.size, 1, none⟩ = some (.slice (some ⟨b2, o2, none⟩) u.length c2))
      ((refine ⟨?_, ?_⟩ <;> (repeat first | (with_reducible assumption) | (with_reducible refine Ext.cell hx5 ?_) | (with_reducible refine Ext.cell hx4 ?_) |  (with_reducible exact kc_new) | ((with_reducible refine kc_newE ?_); (simp; done)) | ((with_reducible refine kc_newEa ?_); (simp; done)) | ((with_reducible refine kc_newEb ?_); (simp; done)) | (with_reducible apply kc_alloc) | (with_reducible apply kc_drewN) | (with_reducible apply kc_drew) | ((with_reducible refine kc_set ?_ ?_); (first | (simp only []; omega) | (simp; omega) | (focus (simp; done)))) | ((with_reducible refine kc_set2 ?_ ?_); (focus (simp; done))) | (with_reducible refine kc_same (v := .slice none 0 0) ?_))))
      (first
        | (go_at_call 76; refine (lambdaTable_any t u _ _ _ (hv.ext (hX.trans (by (repeat first | (with_reducible exact Ext.refl _) | (with_reducible assumption) | (with_reducible apply Ext.drew) | (with_reducible apply kx_drewN) | (with_reducible apply kx_alloc) | ((with_reducible refine kx_set ?_ ?_); (first | (simp only []; omega) | (simp; omega) | (focus (simp; done)))) )))) (hy.ext (hX.trans (by (repeat first | (with_reducible exact Ext.refl _) | (with_reducible assumption) | (with_reducible apply Ext.drew) | (with_reducible apply kx_drewN) | (with_reducible apply kx_alloc) | ((with_reducible refine kx_set ?_ ?_); (first | (simp only []; omega) | (simp; omega) | (focus (simp; done)))) )))) HG.out HU.out HL.out).mono ?_; rintro e w4 ⟨b4, c4, rfl, ho4, hx4⟩; rw [HLT.out])
        | (go_at_call 82; refine (isIdeal_any t u _ _ _ m _ (hv.ext (hX.trans (by (repeat first | (with_reducible exact Ext.refl _) | (with_reducible assumption) | (with_reducible apply Ext.drew) | (with_reducible apply kx_drewN) | (with_reducible apply kx_alloc) | ((with_reducible refine kx_set ?_ ?_); (first | (simp only []; omega) | (simp; omega) | (focus (simp; done)))) | (with_reducible refine Ext.trans ?_ hx4) )))) (hy.ext (hX.trans (by (repeat first | (with_reducible exact Ext.refl _) | (with_reducible assumption) | (with_reducible apply Ext.drew) | (with_reducible apply kx_drewN) | (with_reducible apply kx_alloc) | ((with_reducible refine kx_set ?_ ?_); (first | (simp only []; omega) | (simp; omega) | (focus (simp; done)))) | (with_reducible refine Ext.trans ?_ hx4) )))) HG.out HU.out HL.out HM.out (by have := (ho4.rowsAt (small_mkT (by omega) _)).rows (by rw [HLT.out]; omega) c4; rw [HLT.out] at this; exact this)).mono ?_; rintro e w5 ⟨rfl, hx5⟩))
    all_goals
      go_wp2
      go_ret2
      exact ⟨rfl, hX.trans (Ext.trans (Ext.trans (Ext.drew (Ext.refl _)) hx4) hx5)⟩

set_option maxRecDepth 100000 in
set_option maxHeartbeats 1000000 in
theorem IsSimpleBrace_spec (t u : List (List Int)) (v y : Value) (w : World) (hv : Rows w v t) (hy : Rows w y u) :
    Calls Try.prog 38 #[.agg #[v, y]] w (RetBI (ifB t u (simB t u) false) (codeB t u) w) := by
  obtain ⟨hlen, b, o, c, rfl, hc⟩ := id hv
  obtain ⟨hlen2, b2, o2, c2, rfl, hc2⟩ := id hy
  have hX := ext_boxB w (.slice (some ⟨b, o, none⟩) t.length c) (.slice (some ⟨b2, o2, none⟩) u.length c2) 29
  have k0 := cell_new2a w (.slice (some ⟨b, o, none⟩) t.length c) (.slice (some ⟨b2, o2, none⟩) u.length c2) 29
  have k1 := cell_new2b w (.slice (some ⟨b, o, none⟩) t.length c) (.slice (some ⟨b2, o2, none⟩) u.length c2) 29
  cases hb : braceB t u with
  | false =>
    rw [ifB_no hb, codeB_no hb]
    clear hc hc2
    go_enter Try.func38, Try.ntmps38
    go_wp2_with fail
    refine (l11Is_any t u _ _ _ (hv.ext hX) (hy.ext hX)).mono ?_
    rintro e wn ⟨rfl, hx⟩
    replace hX := hX.trans hx
    replace k0 := hx.cell k0
    replace k1 := hx.cell k1
    clear hx
    rw [hb]
    go_wp2
    go_ret2
    exact ⟨rfl, hX⟩
  | true =>
    rw [ifB_yes hb, codeB_yes hb]
    obtain ⟨hG, hU, hL⟩ := braceB_ok hb
    have HL := Lib.hid hL
    have HG := Lib.hid hG
    have HU := Lib.hid hU
    have h12 := hG.1.2.1
    have HBR := Lib.hid hb
    clear hL hG hU
    go_enter Try.func38, Try.ntmps38
    go_wp2_with fail
    refine (l11Is_any t u _ _ _ (hv.ext hX) (hy.ext hX)).mono ?_
    rintro e wn ⟨rfl, hx⟩
    replace hX := hX.trans hx
    replace k0 := hx.cell k0
    replace k1 := hx.cell k1
    clear hx
    rw [hb]
    clear hb
    have hd := simB_def t u
    have HD := Lib.hid hd
    clear hd
    go_wp2_with fail
    refine (l12Ideals_any t u _ _ _ (hv.ext hX) (hy.ext hX) HG.out HU.out HL.out).mono ?_
    rintro e w3 ⟨v3, rfl, ⟨a3, c3, rfl⟩, -, hx⟩
    have hd := HD.out
    cases hs : simB t u with
    | true =>
      rw [hs] at hd
      go_wp2
      go_ret2
      exact ⟨by rw [hs]; rfl, hX.trans hx⟩
    | false =>
      rw [hs] at hd
      go_wp2
      go_ret2
      exact ⟨by rw [hs]; rfl, hX.trans hx⟩

set_option maxRecDepth 100000 in
set_option maxHeartbeats 1000000 in
theorem IsSimpleBrace_impl (t u : List (List Int)) (v y : Value) (w : World) (hv : Rows w v t) (hy : Rows w y u) :
    Calls Try.prog 39 #[.agg #[v, y]] w (RetBI (ifB t u (simB t u) false) (codeB t u) w) := by
  obtain ⟨hlen, b, o, c, rfl, hc⟩ := id hv
  obtain ⟨hlen2, b2, o2, c2, rfl, hc2⟩ := id hy
  have hX := ext_boxB w (.slice (some ⟨b, o, none⟩) t.length c) (.slice (some ⟨b2, o2, none⟩) u.length c2) 29
  have k0 := cell_new2a w (.slice (some ⟨b, o, none⟩) t.length c) (.slice (some ⟨b2, o2, none⟩) u.length c2) 29
  have k1 := cell_new2b w (.slice (some ⟨b, o, none⟩) t.length c) (.slice (some ⟨b2, o2, none⟩) u.length c2) 29
  cases hb : braceB t u with
  | false =>
    rw [ifB_no hb, codeB_no hb]
    clear hc hc2
    go_enter Try.func39, Try.ntmps39
    go_wp2_with fail
    refine (IsBrace_impl t u _ _ _ (hv.ext hX) (hy.ext hX)).mono ?_
    rintro e wn ⟨rfl, hx⟩
    replace hX := hX.trans hx
    replace k0 := hx.cell k0
    replace k1 := hx.cell k1
    clear hx
    rw [hb]
    go_wp2
    go_ret2
    exact ⟨rfl, hX⟩
  | true =>
    rw [ifB_yes hb, codeB_yes hb]
    obtain ⟨hG, hU, hL⟩ := braceB_ok hb
    have HL := Lib.hid hL
    have HG := Lib.hid hG
    have HU := Lib.hid hU
    have h12 := hG.1.2.1
    have HBR := Lib.hid hb
    clear hL hG hU
    go_enter Try.func39, Try.ntmps39
    go_wp2_with fail
    refine (IsBrace_impl t u _ _ _ (hv.ext hX) (hy.ext hX)).mono ?_
    rintro e wn ⟨rfl, hx⟩
    replace hX := hX.trans hx
    replace k0 := hx.cell k0
    replace k1 := hx.cell k1
    clear hx
    rw [hb]
    clear hb
    have HD := Lib.hid (simB_def t u)
    have h1 := HG.out.1.1
    have HI := Lib.hid (fun (h : t.length = 1) => idl_one (t := t) (u := u) h)
    by_cases hone : 1 < t.length
    case neg =>
      have hs : simB t u = false := by
        rw [← HD.out]
        have := HI.out (by omega)
        rw [beq_eq_false_iff_ne]; omega
      have HS := Lib.hid hs
      clear hs
      have hd1 : decide ((1 : Int) < (t.length : Int)) = false := by simp; omega
      go_wp2
      go_ret2
      exact ⟨by rw [HS.out]; rfl, hX⟩
    case pos =>
      have hi1 : (1 : Int) < (t.length : Int) := by omega
      go_wp2_with fail
      refine (idealsOf_any t u _ _ _ (hv.ext hX) (hy.ext hX) HG.out HU.out HL.out).mono ?_
      rintro e w3 ⟨v3, rfl, ⟨a3, c3, rfl⟩, hx⟩
      have hd := HD.out
      cases hs : simB t u with
      | true =>
        rw [hs] at hd
        go_wp2
        go_ret2
        exact ⟨by rw [hs]; rfl, hX.trans hx⟩
      | false =>
        rw [hs] at hd
        go_wp2
        go_ret2
        exact ⟨by rw [hs]; rfl, hX.trans hx⟩

end Go.Proofs.Ytjcpeenalbgacaa
