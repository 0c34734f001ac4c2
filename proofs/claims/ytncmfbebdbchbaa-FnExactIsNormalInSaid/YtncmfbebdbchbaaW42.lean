/-
  Contracts of IsNormalIn: reference and program (codes).
-/
import Derived.Test.YtncmfbebdbchbaaProg
import Derived.Deep.DeepCutAuto
import Derived.Deep.RegionWith
import Derived.Deep.RegionHeld3
import Derived.Deep.DrawnRows
import Derived.Test.YtncmfbebdbchbaaBase
import Derived.Test.YtncmfbebdbchbaaBase2
import Derived.Test.YtncmfbebdbchbaaRet
import Derived.Test.YtncmfbebdbchbaaSteps
import Derived.Test.YtncmfbebdbchbaaGrow
import Derived.Test.YtncmfbebdbchbaaGrowR
import Derived.Test.YtncmfbebdbchbaaPure1
import Derived.Test.YtncmfbebdbchbaaPureOrd
import Derived.Test.YtncmfbebdbchbaaPureInv
import Derived.Test.YtncmfbebdbchbaaPureTurn
import Derived.Test.YtncmfbebdbchbaaPureConj
import Derived.Test.YtncmfbebdbchbaaPureSet
import Derived.Test.YtncmfbebdbchbaaPureNorm
import Derived.Test.YtncmfbebdbchbaaW1
import Derived.Test.YtncmfbebdbchbaaW3
import Derived.Test.YtncmfbebdbchbaaW6
import Derived.Test.YtncmfbebdbchbaaW8
import Derived.Test.YtncmfbebdbchbaaW11
import Derived.Test.YtncmfbebdbchbaaW12
import Derived.Test.YtncmfbebdbchbaaW13
import Derived.Test.YtncmfbebdbchbaaW17
import Derived.Test.YtncmfbebdbchbaaW20
import Derived.Test.YtncmfbebdbchbaaW33
import Derived.Test.YtncmfbebdbchbaaW34
import Derived.Test.YtncmfbebdbchbaaW41
import Derived.Test.YtncmfbebdbchbaaK3
namespace Go.Proofs.Ytncmfbebdbchbaa
set_option linter.unusedVariables false
set_option linter.unusedSimpArgs false
open Go.RowKit
attribute [local go_sem ↓] Go.wp_at_zero Go.wp_at_succ

set_option maxRecDepth 100000 in
set_option maxHeartbeats 1000000 in
theorem l10Sub_any (t : List (List Int)) (v : Value) (a : Int) (w : World) (hv : Rows w v t) :
    Calls Try.prog 75 #[.agg #[v], .int .i64 a] w fun e w' => e = .returned (.int .i64 (subC t a)) ∧ Ext w w' := by
  obtain ⟨hlen, b, o, c, rfl, hc⟩ := id hv
  have hX := ext_box w (.slice (some ⟨b, o, none⟩) t.length c) 29
  have k0 := cell_new w (.slice (some ⟨b, o, none⟩) t.length c) 29
  cases hg : groupB t with
  | false =>
    rw [subC_1 hg]
    go_enter Try.func75, Try.ntmps75
    go_wp2_with fail
    refine (l10Is_any t _ _ (hv.ext hX)).mono ?_
    rintro e w1 ⟨rfl, hx⟩
    rw [hg]
    replace hX := hX.trans hx
    replace k0 := hx.cell k0
    clear hx
    go_wp2
    go_ret
    exact ⟨rfl, hX⟩
  | true =>
    have HG := Lib.hid (groupB_iff.1 hg)
    have h12 := HG.out.1.2.1
    have hp := pow12 h12
    have h1p := Nat.two_pow_pos t.length
    have HW := Lib.hid (wrapPow h12)
    obtain ⟨P, hP⟩ : ∃ P : Nat, P = 2 ^ t.length := ⟨_, rfl⟩
    have hw : wrap64 (2 ^ t.length) = (P : Int) := by rw [HW.out, hP]
    rw [← hP] at hp h1p
    have HP := Lib.hid hP
    clear hP
    cases hin : inR a 0 ((P : Int) - 1) with
    | false =>
      rw [subC_2 hg (by rw [← HP.out]; exact hin)]
      go_enter Try.func75, Try.ntmps75
      go_wp2_with fail
      refine (l10Is_any t _ _ (hv.ext hX)).mono ?_
      rintro e w1 ⟨rfl, hx⟩
      rw [hg]
      replace hX := hX.trans hx
      replace k0 := hx.cell k0
      clear hx
      clear hg
      go_wp2_with (go_at_call 107; refine (l01In_any _ _ _ _).mono ?_; rintro e w' ⟨rfl, rfl⟩; rw [hin])
      go_ret
      exact ⟨rfl, hX⟩
    | true =>
      have hb := inR_iff.1 hin
      obtain ⟨m, rfl⟩ := Int.eq_ofNat_of_zero_le hb.1
      have HM := Lib.hid (show m < 2 ^ t.length by rw [← HP.out]; omega)
      have H62 := Lib.hid (lt62 h12 HM.out)
      clear hb
      cases hb0 : bitB m 0 with
      | false =>
        rw [subC_5 hg (by rw [← HP.out]; exact hin) (subB_0 hb0)]
        have he := ediv2_nobit H62.out hb0
        clear hb0
        go_enter Try.func75, Try.ntmps75
        go_wp2_with fail
        refine (l10Is_any t _ _ (hv.ext hX)).mono ?_
        rintro e w1 ⟨rfl, hx⟩
        rw [hg]
        replace hX := hX.trans hx
        replace k0 := hx.cell k0
        clear hx
        clear hg
        go_wp2_with (go_at_call 107; refine (l01In_any _ _ _ _).mono ?_; rintro e w' ⟨rfl, rfl⟩; rw [hin])
        go_ret
        exact ⟨rfl, hX⟩
      | true =>
        have he := ediv2_bit H62.out hb0
        have HS := Lib.hid (subB_1 (t := t) hb0)
        cases hcl : closedB t m with
        | false =>
          rw [subC_5 hg (by rw [← HP.out]; exact hin) (by rw [HS.out]; exact hcl)]
          go_enter Try.func75, Try.ntmps75
          go_wp2_with fail
          refine (l10Is_any t _ _ (hv.ext hX)).mono ?_
          rintro e w1 ⟨rfl, hx⟩
          rw [hg]
          replace hX := hX.trans hx
          replace k0 := hx.cell k0
          clear hx
          clear hg
          go_wp2_with (first | (go_at_call 107; refine (l01In_any _ _ _ _).mono ?_; rintro e w' ⟨rfl, rfl⟩; rw [hin]) | (go_at_call 114; refine (l04Closed_any t _ m _ (hv.ext hX) HG.out.1 HM.out).mono ?_; rintro e w' ⟨rfl, rfl⟩; rw [hcl]))
          go_ret
          exact ⟨rfl, hX⟩
        | true =>
          rw [subC_0 hg (by rw [← HP.out]; exact hin) (by rw [HS.out]; exact hcl)]
          go_enter Try.func75, Try.ntmps75
          go_wp2_with fail
          refine (l10Is_any t _ _ (hv.ext hX)).mono ?_
          rintro e w1 ⟨rfl, hx⟩
          rw [hg]
          replace hX := hX.trans hx
          replace k0 := hx.cell k0
          clear hx
          clear hg
          go_wp2_with (first | (go_at_call 107; refine (l01In_any _ _ _ _).mono ?_; rintro e w' ⟨rfl, rfl⟩; rw [hin]) | (go_at_call 114; refine (l04Closed_any t _ m _ (hv.ext hX) HG.out.1 HM.out).mono ?_; rintro e w' ⟨rfl, rfl⟩; rw [hcl]))
          go_ret
          exact ⟨rfl, hX⟩

set_option maxRecDepth 100000 in
set_option maxHeartbeats 1000000 in
theorem checkSubgroup_any (t : List (List Int)) (v : Value) (a : Int) (w : World) (hv : Rows w v t) :
    Calls Try.prog 77 #[.agg #[v], .int .i64 a] w fun e w' => e = .returned (.int .i64 (subC t a)) ∧ Ext w w' := by
  obtain ⟨hlen, b, o, c, rfl, hc⟩ := id hv
  have hX := ext_box w (.slice (some ⟨b, o, none⟩) t.length c) 29
  have k0 := cell_new w (.slice (some ⟨b, o, none⟩) t.length c) 29
  cases hg : groupB t with
  | false =>
    rw [subC_1 hg]
    go_enter Try.func77, Try.ntmps77
    go_wp2_with fail
    refine (IsGroup_impl t _ _ (hv.ext hX)).mono ?_
    rintro e w1 ⟨rfl, hx⟩
    rw [hg]
    replace hX := hX.trans hx
    replace k0 := hx.cell k0
    clear hx
    go_wp2
    go_ret
    exact ⟨rfl, hX⟩
  | true =>
    have HG := Lib.hid (groupB_iff.1 hg)
    have h12 := HG.out.1.2.1
    have hp := pow12 h12
    have h1p := Nat.two_pow_pos t.length
    have HW := Lib.hid (wrapPow h12)
    obtain ⟨P, hP⟩ : ∃ P : Nat, P = 2 ^ t.length := ⟨_, rfl⟩
    have hw : wrap64 (2 ^ t.length) = (P : Int) := by rw [HW.out, hP]
    rw [← hP] at hp h1p
    have HP := Lib.hid hP
    clear hP
    cases hin : inR a 0 ((P : Int) - 1) with
    | false =>
      rw [subC_2 hg (by rw [← HP.out]; exact hin)]
      go_enter Try.func77, Try.ntmps77
      go_wp2_with fail
      refine (IsGroup_impl t _ _ (hv.ext hX)).mono ?_
      rintro e w1 ⟨rfl, hx⟩
      rw [hg]
      replace hX := hX.trans hx
      replace k0 := hx.cell k0
      clear hx
      clear hg
      go_wp2_with (go_at_call 115; refine (within_any _ _ _ _).mono ?_; rintro e w' ⟨rfl, rfl⟩; rw [hin])
      go_ret
      exact ⟨rfl, hX⟩
    | true =>
      have hb := inR_iff.1 hin
      obtain ⟨m, rfl⟩ := Int.eq_ofNat_of_zero_le hb.1
      have HM := Lib.hid (show m < 2 ^ t.length by rw [← HP.out]; omega)
      have H62 := Lib.hid (lt62 h12 HM.out)
      clear hb
      cases hcl : subB t m with
      | false =>
        rw [subC_5 hg (by rw [← HP.out]; exact hin) hcl]
        go_enter Try.func77, Try.ntmps77
        go_wp2_with fail
        refine (IsGroup_impl t _ _ (hv.ext hX)).mono ?_
        rintro e w1 ⟨rfl, hx⟩
        rw [hg]
        replace hX := hX.trans hx
        replace k0 := hx.cell k0
        clear hx
        clear hg
        go_wp2_with (go_at_call 115; refine (within_any _ _ _ _).mono ?_; rintro e w' ⟨rfl, rfl⟩; rw [hin])
        refine (isSubgroup_any t _ m _ (hv.ext hX) HG.out.1 HM.out).mono ?_
        rintro e w3 ⟨rfl, hx3⟩
        rw [hcl]
        go_wp2
        go_ret
        exact ⟨rfl, hX.trans hx3⟩
      | true =>
        rw [subC_0 hg (by rw [← HP.out]; exact hin) hcl]
        go_enter Try.func77, Try.ntmps77
        go_wp2_with fail
        refine (IsGroup_impl t _ _ (hv.ext hX)).mono ?_
        rintro e w1 ⟨rfl, hx⟩
        rw [hg]
        replace hX := hX.trans hx
        replace k0 := hx.cell k0
        clear hx
        clear hg
        go_wp2_with (go_at_call 115; refine (within_any _ _ _ _).mono ?_; rintro e w' ⟨rfl, rfl⟩; rw [hin])
        refine (isSubgroup_any t _ m _ (hv.ext hX) HG.out.1 HM.out).mono ?_
        rintro e w3 ⟨rfl, hx3⟩
        rw [hcl]
        go_wp2
        go_ret
        exact ⟨rfl, hX.trans hx3⟩

set_option maxRecDepth 100000 in
theorem IsNormalIn_spec (t : List (List Int)) (v : Value) (a : Int) (w : World) (hv : Rows w v t) :
    Calls Try.prog 31 #[.agg #[v], .int .i64 a] w (RetBI (normV t a) (subC t a) w) := by
  obtain ⟨hlen, b, o, c, rfl, hc⟩ := id hv
  have hX := ext_box w (.slice (some ⟨b, o, none⟩) t.length c) 29
  have k0 := cell_new w (.slice (some ⟨b, o, none⟩) t.length c) 29
  clear hc
  cases hz : (subC t a != 0) with
  | true =>
    rw [normV_bad (by simpa using hz)]
    go_enter Try.func31, Try.ntmps31
    go_wp2_with fail
    refine (l10Sub_any t _ _ _ (hv.ext hX)).mono ?_
    rintro e w1 ⟨rfl, hx⟩
    replace hX := hX.trans hx
    replace k0 := hx.cell k0
    clear hx
    go_wp2
    go_ret2
    exact ⟨rfl, hX⟩
  | false =>
    have hz' : subC t a = 0 := by simpa using hz
    obtain ⟨hg, m, rfl, hm, -⟩ := subC_zero hz'
    rw [normV_good hz', hz']
    have HZ := Lib.hid hz'
    have HM := Lib.hid hm
    have HG := Lib.hid (groupB_iff.1 hg)
    clear hz hz' hm hg
    go_enter Try.func31, Try.ntmps31
    go_wp2_with fail
    refine (l10Sub_any t _ _ _ (hv.ext hX)).mono ?_
    rintro e w1 ⟨rfl, hx⟩
    replace hX := hX.trans hx
    replace k0 := hx.cell k0
    clear hx
    rw [HZ.out]
    go_wp2_with fail
    refine (l10Normal_any t _ m _ (hv.ext hX) HG.out HM.out).mono ?_
    rintro e w2 ⟨rfl, hx⟩
    go_wp2
    go_ret2
    exact ⟨rfl, hX.trans hx⟩

set_option maxRecDepth 100000 in
theorem IsNormalIn_impl (t : List (List Int)) (v : Value) (a : Int) (w : World) (hv : Rows w v t) :
    Calls Try.prog 32 #[.agg #[v], .int .i64 a] w (RetBI (normV t a) (subC t a) w) := by
  obtain ⟨hlen, b, o, c, rfl, hc⟩ := id hv
  have hX := ext_box w (.slice (some ⟨b, o, none⟩) t.length c) 29
  have k0 := cell_new w (.slice (some ⟨b, o, none⟩) t.length c) 29
  clear hc
  cases hz : (subC t a != 0) with
  | true =>
    rw [normV_bad (by simpa using hz)]
    go_enter Try.func32, Try.ntmps32
    go_wp2_with fail
    refine (checkSubgroup_any t _ _ _ (hv.ext hX)).mono ?_
    rintro e w1 ⟨rfl, hx⟩
    replace hX := hX.trans hx
    replace k0 := hx.cell k0
    clear hx
    go_wp2
    go_ret2
    exact ⟨rfl, hX⟩
  | false =>
    have hz' : subC t a = 0 := by simpa using hz
    obtain ⟨hg, m, rfl, hm, -⟩ := subC_zero hz'
    rw [normV_good hz', hz']
    have HZ := Lib.hid hz'
    have HM := Lib.hid hm
    have HG := Lib.hid (groupB_iff.1 hg)
    clear hz hz' hm hg
    go_enter Try.func32, Try.ntmps32
    go_wp2_with fail
    refine (checkSubgroup_any t _ _ _ (hv.ext hX)).mono ?_
    rintro e w1 ⟨rfl, hx⟩
    replace hX := hX.trans hx
    replace k0 := hx.cell k0
    clear hx
    rw [HZ.out]
    go_wp2_with fail
    refine (isNormal_any t _ m _ (hv.ext hX) HG.out HM.out).mono ?_
    rintro e w2 ⟨rfl, hx⟩
    go_wp2
    go_ret2
    exact ⟨rfl, hX.trans hx⟩

end Go.Proofs.Ytncmfbebdbchbaa
