/-
  Contracts of IsNormalIn: reference and program (codes).
-/
import Derived.Test.YtjcpeenalbgacaaProg
import Derived.Deep.DeepCutAuto
import Derived.Deep.RegionWith
import Derived.Deep.RegionHeld3
import Derived.Deep.DrawnRows
import Derived.Test.YtjcpeenalbgacaaBase
import Derived.Test.YtjcpeenalbgacaaBase2
import Derived.Test.YtjcpeenalbgacaaRet
import Derived.Test.YtjcpeenalbgacaaSteps
import Derived.Test.YtjcpeenalbgacaaGrow
import Derived.Test.YtjcpeenalbgacaaGrowR
import Derived.Test.YtjcpeenalbgacaaPure1
import Derived.Test.YtjcpeenalbgacaaPureOrd
import Derived.Test.YtjcpeenalbgacaaPureInv
import Derived.Test.YtjcpeenalbgacaaPureTurn
import Derived.Test.YtjcpeenalbgacaaPureConj
import Derived.Test.YtjcpeenalbgacaaPureSet
import Derived.Test.YtjcpeenalbgacaaPureNorm
import Derived.Test.YtjcpeenalbgacaaW1
import Derived.Test.YtjcpeenalbgacaaW3
import Derived.Test.YtjcpeenalbgacaaW6
import Derived.Test.YtjcpeenalbgacaaW8
import Derived.Test.YtjcpeenalbgacaaW11
import Derived.Test.YtjcpeenalbgacaaW12
import Derived.Test.YtjcpeenalbgacaaW13
import Derived.Test.YtjcpeenalbgacaaW17
import Derived.Test.YtjcpeenalbgacaaW20
import Derived.Test.YtjcpeenalbgacaaW33
import Derived.Test.YtjcpeenalbgacaaW34
import Derived.Test.YtjcpeenalbgacaaW41
import Derived.Test.YtjcpeenalbgacaaK3
namespace Go.Proofs.Ytjcpeenalbgacaa
set_option linter.unusedVariables false
set_option linter.unusedSimpArgs false
open Go.RowKit
attribute [local go_sem ↓] Go.wp_at_zero Go.wp_at_succ

set_option maxRecDepth 100000 in
set_option maxHeartbeats 1000000 in
theorem l10Sub_any (t : List (List Int)) (v : Value) (a : Int) (w : World) (hv : Rows w v t) :
    Calls Try.prog 85 #[.agg #[v], .int .i64 a] w fun e w' => e = .returned (.int .i64 (subC t a)) ∧ Ext w w' := by
  obtain ⟨hlen, b, o, c, rfl, hc⟩ := id hv
  have hX := ext_box w (.slice (some ⟨b, o, none⟩) t.length c) 53
  have k0 := cell_new w (.slice (some ⟨b, o, none⟩) t.length c) 53
  cases hg : groupB t with
  | false =>
    rw [subC_1 hg]
    go_enter Try.func85, Try.ntmps85
    go_wp2_with fail
    refine (l10Is_any t _ _ (hv.ext hX)).mono ?_
    rintro e w1 ⟨rfl, hx⟩
    rw [hg]
    replace hX := hX.trans hx
    replace k0 := hx.cell k0
    clear hx
    go_wp2
    go_ret
    exact ⟨rfl, hX⟩
  | true =>
    have HG := Lib.hid (groupB_iff.1 hg)
    have h12 := HG.out.1.2.1
    have hp := pow12 h12
    have h1p := Nat.two_pow_pos t.length
    have HW := Lib.hid (wrapPow h12)
    obtain ⟨P, hP⟩ : ∃ P : Nat, P = 2 ^ t.length := ⟨_, rfl⟩
    have hw : wrap64 (2 ^ t.length) = (P : Int) := by rw [HW.out, hP]
    rw [← hP] at hp h1p
    have HP := Lib.hid hP
    clear hP
    cases hin : inR a 0 ((P : Int) - 1) with
    | false =>
      rw [subC_2 hg (by rw [← HP.out]; exact hin)]
      go_enter Try.func85, Try.ntmps85
      go_wp2_with fail
      refine (l10Is_any t _ _ (hv.ext hX)).mono ?_
      rintro e w1 ⟨rfl, hx⟩
      rw [hg]
      replace hX := hX.trans hx
      replace k0 := hx.cell k0
      clear hx
      clear hg
      go_wp2_with (go_at_call 121; refine (l01In_any _ _ _ _).mono ?_; rintro e w' ⟨rfl, rfl⟩; rw [hin])
      go_ret
      exact ⟨rfl, hX⟩
    | true =>
      have hb := inR_iff.1 hin
      obtain ⟨m, rfl⟩ := Int.eq_ofNat_of_zero_le hb.1
      have HM := Lib.hid (show m < 2 ^ t.length by rw [← HP.out]; omega)
      have H62 := Lib.hid (lt62 h12 HM.out)
      clear hb
      cases hb0 : bitB m 0 with
      | false =>
        rw [subC_5 hg (by rw [← HP.out]; exact hin) (subB_0 hb0)]
        have he := ediv2_nobit H62.out hb0
        clear hb0
        go_enter Try.func85, Try.ntmps85
        go_wp2_with fail
        refine (l10Is_any t _ _ (hv.ext hX)).mono ?_
        rintro e w1 ⟨rfl, hx⟩
        rw [hg]
        replace hX := hX.trans hx
        replace k0 := hx.cell k0
        clear hx
        clear hg
        go_wp2_with (go_at_call 121; refine (l01In_any _ _ _ _).mono ?_; rintro e w' ⟨rfl, rfl⟩; rw [hin])
        go_ret
        exact ⟨rfl, hX⟩
      | true =>
        have he := ediv2_bit H62.out hb0
        have HS := Lib.hid (subB_1 (t := t) hb0)
        cases hcl : closedB t m with
        | false =>
          rw [subC_5 hg (by rw [← HP.out]; exact hin) (by rw [HS.out]; exact hcl)]
          go_enter Try.func85, Try.ntmps85
          go_wp2_with fail
          refine (l10Is_any t _ _ (hv.ext hX)).mono ?_
          rintro e w1 ⟨rfl, hx⟩
          rw [hg]
          replace hX := hX.trans hx
          replace k0 := hx.cell k0
          clear hx
          clear hg
          go_wp2_with (first | (go_at_call 121; refine (l01In_any _ _ _ _).mono ?_; rintro e w' ⟨rfl, rfl⟩; rw [hin]) | (go_at_call 61; refine (l04Closed_any t _ m _ (hv.ext hX) HG.out.1 HM.out).mono ?_; rintro e w' ⟨rfl, rfl⟩; rw [hcl]))
          go_ret
          exact ⟨rfl, hX⟩
        | true =>
          rw [subC_0 hg (by rw [← HP.out]; exact hin) (by rw [HS.out]; exact hcl)]
          go_enter Try.func85, Try.ntmps85
          go_wp2_with fail
          refine (l10Is_any t _ _ (hv.ext hX)).mono ?_
          rintro e w1 ⟨rfl, hx⟩
          rw [hg]
          replace hX := hX.trans hx
          replace k0 := hx.cell k0
          clear hx
          clear hg
          go_wp2_with (first | (go_at_call 121; refine (l01In_any _ _ _ _).mono ?_; rintro e w' ⟨rfl, rfl⟩; rw [hin]) | (go_at_call 61; refine (l04Closed_any t _ m _ (hv.ext hX) HG.out.1 HM.out).mono ?_; rintro e w' ⟨rfl, rfl⟩; rw [hcl]))
          go_ret
          exact ⟨rfl, hX⟩

set_option maxRecDepth 100000 in
set_option maxHeartbeats 1000000 in
theorem checkSubgroup_any (t : List (List Int)) (v : Value) (a : Int) (w : World) (hv : Rows w v t) :
    Calls Try.prog 89 #[.agg #[v], .int .i64 a] w fun e w' => e = .returned (.int .i64 (subC t a)) ∧ Ext w w' := by
  obtain ⟨hlen, b, o, c, rfl, hc⟩ := id hv
  have hX := ext_box w (.slice (some ⟨b, o, none⟩) t.length c) 53
  have k0 := cell_new w (.slice (some ⟨b, o, none⟩) t.length c) 53
  cases hg : groupB t with
  | false =>
    rw [subC_1 hg]
    go_enter Try.func89, Try.ntmps89
    go_wp2_with fail
    refine (IsGroup_impl t _ _ (hv.ext hX)).mono ?_
    rintro e w1 ⟨rfl, hx⟩
    rw [hg]
    replace hX := hX.trans hx
    replace k0 := hx.cell k0
    clear hx
    go_wp2
    go_ret
    exact ⟨rfl, hX⟩
  | true =>
    have HG := Lib.hid (groupB_iff.1 hg)
    have h12 := HG.out.1.2.1
    have hp := pow12 h12
    have h1p := Nat.two_pow_pos t.length
    have HW := Lib.hid (wrapPow h12)
    obtain ⟨P, hP⟩ : ∃ P : Nat, P = 2 ^ t.length := ⟨_, rfl⟩
    have hw : wrap64 (2 ^ t.length) = (P : Int) := by rw [HW.out, hP]
    rw [← hP] at hp h1p
    have HP := Lib.hid hP
    clear hP
    cases hin : inR a 0 ((P : Int) - 1) with
    | false =>
      rw [subC_2 hg (by rw [← HP.out]; exact hin)]
      go_enter Try.func89, Try.ntmps89
      go_wp2_with fail
      refine (IsGroup_impl t _ _ (hv.ext hX)).mono ?_
      rintro e w1 ⟨rfl, hx⟩
      rw [hg]
      replace hX := hX.trans hx
      replace k0 := hx.cell k0
      clear hx
      clear hg
      go_wp2_with (go_at_call 122; refine (within_any _ _ _ _).mono ?_; rintro e w' ⟨rfl, rfl⟩; rw [hin])
      go_ret
      exact ⟨rfl, hX⟩
    | true =>
      have hb := inR_iff.1 hin
      obtain ⟨m, rfl⟩ := Int.eq_ofNat_of_zero_le hb.1
      have HM := Lib.hid (show m < 2 ^ t.length by rw [← HP.out]; omega)
      have H62 := Lib.hid (lt62 h12 HM.out)
      clear hb
      cases hcl : subB t m with
      | false =>
        rw [subC_5 hg (by rw [← HP.out]; exact hin) hcl]
        go_enter Try.func89, Try.ntmps89
        go_wp2_with fail
        refine (IsGroup_impl t _ _ (hv.ext hX)).mono ?_
        rintro e w1 ⟨rfl, hx⟩
        rw [hg]
        replace hX := hX.trans hx
        replace k0 := hx.cell k0
        clear hx
        clear hg
        go_wp2_with (go_at_call 122; refine (within_any _ _ _ _).mono ?_; rintro e w' ⟨rfl, rfl⟩; rw [hin])
        refine (isSubgroup_any t _ m _ (hv.ext hX) HG.out.1 HM.out).mono ?_
        rintro e w3 ⟨rfl, hx3⟩
        rw [hcl]
        go_wp2
        go_ret
        exact ⟨rfl, hX.trans hx3⟩
      | true =>
        rw [subC_0 hg (by rw [← HP.out]; exact hin) hcl]
        go_enter Try.func89, Try.ntmps89
        go_wp2_with fail
        refine (IsGroup_impl t _ _ (hv.ext hX)).mono ?_
        rintro e w1 ⟨rfl, hx⟩
        rw [hg]
        replace hX := hX.trans hx
        replace k0 := hx.cell k0
        clear hx
        clear hg
        go_wp2_with (go_at_call 122; refine (within_any _ _ _ _).mono ?_; rintro e w' ⟨rfl, rfl⟩; rw [hin])
        refine (isSubgroup_any t _ m _ (hv.ext hX) HG.out.1 HM.out).mono ?_
        rintro e w3 ⟨rfl, hx3⟩
        rw [hcl]
        go_wp2
        go_ret
        exact ⟨rfl, hX.trans hx3⟩

end Go.Proofs.Ytjcpeenalbgacaa
