/-
  The law FnBraces, walked.
-/
import Derived.Test.YtjbloenjphpngaaProg
import Derived.Deep.DeepCutAuto
import Derived.Deep.RegionWith
import Derived.BigQuiet
import Derived.Test.YtjbloenjphpngaaJx0
import Derived.Test.YtjbloenjphpngaaJx1
import Derived.Test.YtjbloenjphpngaaJx5
import Derived.Test.YtjbloenjphpngaaJx14
import Derived.Test.YtjbloenjphpngaaJx8
import Derived.Test.YtjbloenjphpngaaJx9
import Derived.Test.YtjbloenjphpngaaJx2
import Derived.Test.YtjbloenjphpngaaJx27
import Derived.Test.YtjbloenjphpngaaJx53
import Derived.Test.YtjbloenjphpngaaJx10
import Derived.Test.YtjbloenjphpngaaJx6
import Derived.Test.YtjbloenjphpngaaJx12
import Derived.Test.YtjbloenjphpngaaJx17
import Derived.Test.YtjbloenjphpngaaJx37
import Derived.Test.YtjbloenjphpngaaJx40
import Derived.Test.YtjbloenjphpngaaJx46
import Derived.Test.YtjbloenjphpngaaJx48
import Derived.Test.YtjbloenjphpngaaJx50
import Derived.Test.YtjbloenjphpngaaJx45
namespace Go.Proofs.Ytjbloenjphpngaa
set_option linter.unusedVariables false
set_option linter.unusedSimpArgs false
open Go.RowKit
attribute [local go_sem ↓] Go.wp_at_zero Go.wp_at_succ
open Go.Deep

set_option maxRecDepth 100000 in
set_option maxHeartbeats 8000000 in
theorem lawBraces (w : World) (bs : List Int) (v : Value) (hv : BytesR w v bs) :
    Calls Try.prog 3 #[v] w fun e w' => e = .returned (.bool true) ∧ Ext w w' := by
  obtain ⟨va, vc, rfl, -⟩ := id hv
  go_enter Try.func3, Try.ntmps3
  go_wp2_with fail
  refine (big_any va bs.length vc w).mono ?_
  rintro e w1 ⟨rfl, rfl⟩
  by_cases hbig : 4096 < (bs.length : Int)
  case pos =>
    go_wp2
    go_ret
    exact ⟨rfl, Ext.refl _⟩
  case neg =>
    go_wp2_with fail
    refine (DrawBraceFault_any bs _ _ hv (by omega)).mono ?_
    rintro e w1 ⟨v1, y1, T, U, rfl, hr, hu, l0, l1, l2, hX⟩
    obtain ⟨b, o, c, rfl⟩ := hr.shape
    obtain ⟨yb, yo, yc, rfl⟩ := hu.shape
    clear hv hbig
    have hxg : Ext w1 (w1.alloc (.cells #[.slice (some ⟨b, o, none⟩) T.length c, .slice (some ⟨yb, yo, none⟩) U.length yc] 26)) := (Ext.refl _).alloc _
    have k0 := cell_new2a w1 (.slice (some ⟨b, o, none⟩) T.length c) (.slice (some ⟨yb, yo, none⟩) U.length yc) 26
    have k1 := cell_new2b w1 (.slice (some ⟨b, o, none⟩) T.length c) (.slice (some ⟨yb, yo, none⟩) U.length yc) 26
    go_wp2_with fail
    generalize (w1.alloc (.cells #[.slice (some ⟨b, o, none⟩) T.length c, .slice (some ⟨yb, yo, none⟩) U.length yc] 26)) = w2 at *
    replace hX := hX.trans hxg
    replace hr := hr.ext hxg
    replace hu := hu.ext hxg
    clear hxg
    refine (BraceFault_impl T U _ _ _ hr hu).mono ?_
    rintro e w3 ⟨fv, rfl, hf, hx⟩
    have HFL := Lib.hid hf.1
    have HF := Lib.hid hf.toR
    replace hX := hX.trans hx
    replace hr := hr.ext hx
    replace hu := hu.ext hx
    replace k0 := hx.cell k0
    replace k1 := hx.cell k1
    clear hx hf
    obtain ⟨fa, fc, rfl, -⟩ := id HF.out
    go_wp2_with fail
    refine (BraceFault_spec T U _ _ _ hr hu).mono ?_
    rintro e w4 ⟨dv, rfl, hd, hx⟩
    have HD := Lib.hid hd
    have HF := Lib.hid (HF.out.ext hx)
    replace hX := hX.trans hx
    replace hr := hr.ext hx
    replace hu := hu.ext hx
    replace k0 := hx.cell k0
    replace k1 := hx.cell k1
    clear hx hd
    obtain ⟨da, dc, rfl, -⟩ := id HD.out
    have HEQ := Lib.hid (show eqIB (bfL T U) (bfL T U) = true from eqIB_yes rfl)
    have HR := Lib.hid hr
    have HU := Lib.hid hu
    have HX := Lib.hid hX
    clear hr hu hX
    have HBB := Lib.hid (@bf_brace T U)
    have HBN := Lib.hid (@bf_nobrace T U)
    obtain ⟨C, hC⟩ : ∃ C, C = bfC T U := ⟨_, rfl⟩
    have HC := Lib.hid hC
    rw [← hC]
    clear hC
    go_upto_region 6 with fail
    go_cut [51] (fun v wx => v = .bool false ∧ Ext w4 wx)
    case first =>
      cases hb : braceB T U with
      | true =>
        have hC4 : C = 4 := by rw [HC.out]; exact (HBB.out hb).2
        subst hC4
        go_region_with (first
          | (go_at_call 10; refine (IsBrace_impl T U _ _ _ (HR.out.ext ((((Ext.drew (Ext.refl _)).trans hdA.ext).trans hxB).trans hxC)) (HU.out.ext ((((Ext.drew (Ext.refl _)).trans hdA.ext).trans hxB).trans hxC))).mono ?_; rintro e wD ⟨rfl, hxD⟩; rw [hb]; have kD0 := hxD.cell kC0; have kD1 := hxD.cell kC1)
          | (go_at_call 11; refine (IsBrace_spec T U _ _ _ (HR.out.ext (((Ext.drew (Ext.refl _)).trans hdA.ext).trans hxB)) (HU.out.ext (((Ext.drew (Ext.refl _)).trans hdA.ext).trans hxB))).mono ?_; rintro e wC ⟨rfl, hxC⟩; rw [hb]; have kC0 := hxC.cell kB0; have kC1 := hxC.cell kB1)
          | (go_at_call 10; refine (IsBrace_impl T U _ _ _ (HR.out.ext ((Ext.drew (Ext.refl _)).trans hdA.ext)) (HU.out.ext ((Ext.drew (Ext.refl _)).trans hdA.ext))).mono ?_; rintro e wB ⟨rfl, hxB⟩; rw [hb]; have kB0 := hxB.cell kA0; have kB1 := hxB.cell kA1)
          | (go_at_call 9; refine (likeInts_any _ _ _ _ _ (HF.out.ext (Ext.drew (Ext.refl _))) (HD.out.ext (Ext.drew (Ext.refl _))) HFL.out).mono ?_; rintro e wA ⟨rfl, hdA⟩; rw [HEQ.out]; have kA0 := hdA.ext.cell (show w4.drew.cell? _ = some _ from k0); have kA1 := hdA.ext.cell (show w4.drew.cell? _ = some _ from k1)))
        all_goals
          go_wp2_with fail
          go_meet
          case rel => exact ⟨rfl, ((((Ext.drew (Ext.refl _)).trans hdA.ext).trans hxB).trans hxC).trans hxD⟩
      | false =>
        have hC4 : C ≠ 4 := by rw [HC.out]; exact HBN.out hb
        have hCb : (C == 4) = false := by simpa using hC4
        go_region_with (first
          | (go_at_call 10; refine (IsBrace_impl T U _ _ _ (HR.out.ext ((((Ext.drew (Ext.refl _)).trans hdA.ext).trans hxB).trans hxC)) (HU.out.ext ((((Ext.drew (Ext.refl _)).trans hdA.ext).trans hxB).trans hxC))).mono ?_; rintro e wD ⟨rfl, hxD⟩; rw [hb]; have kD0 := hxD.cell kC0; have kD1 := hxD.cell kC1)
          | (go_at_call 11; refine (IsBrace_spec T U _ _ _ (HR.out.ext (((Ext.drew (Ext.refl _)).trans hdA.ext).trans hxB)) (HU.out.ext (((Ext.drew (Ext.refl _)).trans hdA.ext).trans hxB))).mono ?_; rintro e wC ⟨rfl, hxC⟩; rw [hb]; have kC0 := hxC.cell kB0; have kC1 := hxC.cell kB1)
          | (go_at_call 10; refine (IsBrace_impl T U _ _ _ (HR.out.ext ((Ext.drew (Ext.refl _)).trans hdA.ext)) (HU.out.ext ((Ext.drew (Ext.refl _)).trans hdA.ext))).mono ?_; rintro e wB ⟨rfl, hxB⟩; rw [hb]; have kB0 := hxB.cell kA0; have kB1 := hxB.cell kA1)
          | (go_at_call 9; refine (likeInts_any _ _ _ _ _ (HF.out.ext (Ext.drew (Ext.refl _))) (HD.out.ext (Ext.drew (Ext.refl _))) HFL.out).mono ?_; rintro e wA ⟨rfl, hdA⟩; rw [HEQ.out]; have kA0 := hdA.ext.cell (show w4.drew.cell? _ = some _ from k0); have kA1 := hdA.ext.cell (show w4.drew.cell? _ = some _ from k1)))
        all_goals
          go_wp2_with fail
          go_meet
          case rel => exact ⟨rfl, ((((Ext.drew (Ext.refl _)).trans hdA.ext).trans hxB).trans hxC).trans hxD⟩
    case rest =>
      obtain ⟨rfl, hx⟩ := hcut
      have HR := Lib.hid (HR.out.ext hx)
      have HU := Lib.hid (HU.out.ext hx)
      have HX := Lib.hid (HX.out.trans hx)
      replace k0 := hx.cell k0
      replace k1 := hx.cell k1
      clear hx HF HD HFL HEQ
      go_wp2_with fail
      refine (IsBrace_impl T U _ _ _ HR.out HU.out).mono ?_
      rintro e w5 ⟨rfl, hx⟩
      have HR := Lib.hid (HR.out.ext hx)
      have HU := Lib.hid (HU.out.ext hx)
      have HX := Lib.hid (HX.out.trans hx)
      replace k0 := hx.cell k0
      replace k1 := hx.cell k1
      clear hx
      cases hb : braceB T U with
      | false =>
        go_wp2
        go_ret
        exact ⟨rfl, HX.out⟩
      | true =>
        have hok := braceB_ok hb
        have HLR := Lib.hid (fun x (hx : x < T.length) => lam_row hb hx)
        have HLC := Lib.hid (fun x y z (hx : x < T.length) (hy : y < T.length) (hz : z < T.length) => lam_comp hb hx hy hz)
        have HLL := Lib.hid (fun x y (hx : x < T.length) (hy : y < T.length) => lam_cirl hb hx hy)
        have HLB := Lib.hid (fun x y (hx : x < T.length) (hy : y < T.length) => lam_lt hb hx hy)
        have HLRW := Lib.hid (fun x (hx : x < T.length) => show (row (mkT T.length (lamF T U)) x).length = T.length from (lam_row hb hx).1)
        have HGT := Lib.hid hok.1
        have HGU := Lib.hid hok.2.1
        have HUL := Lib.hid hok.2.2
        have HLA := Lib.hid (LambdaOf_impl T U _ _ _ HR.out HU.out)
        rw [ifB_yes hb, codeB_yes hb] at HLA
        clear hok
        go_wp2_with fail
        refine HLA.out.mono ?_
        rintro e w6 ⟨lv, rfl, hlo, hx⟩
        have HLT := Lib.hid (length_mkT T.length (lamF T U))
        have HLO := Lib.hid (by have := hlo.toR; exact rowsR_ok this (table_mk l0 l1 fun x hx y hy => by have := HLB.out x y hx hy; omega) : Rows w6 lv (mkT T.length (lamF T U)))
        obtain ⟨lb, lo, lc, rfl⟩ := HLO.out.shape
        rw [HLT.out]
        rw [HLT.out] at HLO
        have HR := Lib.hid (HR.out.ext hx)
        have HU := Lib.hid (HU.out.ext hx)
        have HX := Lib.hid (HX.out.trans hx)
        replace k0 := hx.cell k0
        replace k1 := hx.cell k1
        clear hx hlo HLA
        obtain ⟨-, Lb, Lo, Lc, hLe, HLC0⟩ := id HLO.out
        simp only [Value.slice.injEq, Option.some.injEq, Addr.mk.injEq, and_true] at hLe
        obtain ⟨⟨rfl, rfl⟩, -, rfl⟩ := hLe
        have HLA := Lib.hid HLC0
        clear HLC0
        go_wp2_with fail
        go_loopw [11] (fun x wr => ∃ k : Nat, k ≤ T.length ∧ x = .int .i64 k ∧ Ext w6 wr) (fun x _ => T.length - (intOf x).toNat)
        case atStart => exact ⟨0, Nat.zero_le _, rfl, Ext.refl _⟩
        case round =>
          obtain ⟨k, hk, rfl, hx⟩ := hrel
          have HXW := Lib.hid hx
          have HXX := Lib.hid (HX.out.trans hx)
          have k0' := hx.cell k0
          have k1' := hx.cell k1
          clear hx
          by_cases hkl : k < T.length
          case pos =>
            have hki : (k : Int) < (T.length : Int) := by omega
            obtain ⟨d1, s1, m1, r1, i1, n1⟩ := (HLA.out.ext HXW.out).get (i := k) (by rw [HLT.out]; exact hkl)
            have hiso := HLR.out k hkl
            have I1 := Lib.hid (i1.ints n1 m1)
            rw [hiso.1] at r1 I1
            have HISO := Lib.hid (show IsoOk T.length [] [] (row (mkT T.length (lamF T U)) k) from ⟨hiso.1, hiso.2.1, fun k hk => by simp at hk⟩)
            have HIM := Lib.hid (imgT_auto HGT.out.1 hiso)
            have HEQ := Lib.hid (show eqTB T T = true from eqTB_yes rfl)
            have HRW := Lib.hid (HR.out.ext HXW.out)
            clear i1 hiso
            have HSM := Lib.hid (imgT_ok HGT.out.1 HISO.out)
            go_wp2
            go_region_with (first
              | (go_at_call 13; refine (same9_any (imgT T (row (mkT T.length (lamF T U)) k)) T _ _ _ (hoA.rowsV HSM.out cA).toR (HRW.out.ext ((Ext.drew (Ext.refl _)).trans hxA)).toR HSM.out.small).mono ?_; rintro e wB ⟨rfl, hdB⟩; rw [HIM.out, HEQ.out])
              | (go_at_call 14; refine (image9_any T (row (mkT T.length (lamF T U)) k) _ _ _ (HRW.out.ext (Ext.drew (Ext.refl _))) (I1.out.ext (Ext.drew (Ext.refl _))) HGT.out.1 HISO.out).mono ?_; rintro e wA ⟨bA, cA, rfl, hoA, hxA⟩; have kA0 := hxA.cell (show wr.drew.cell? _ = some _ from k0')))
            all_goals
              have HXZ := Lib.hid (((Ext.drew (Ext.refl wr)).trans hxA).trans hdB.ext)
              go_wp2
              go_roundw
              case rel => exact ⟨k + 1, by omega, by go_num, HXW.out.trans HXZ.out⟩
              case measure => simp [intOf]; omega
          case neg =>
            have hki : ¬ (k : Int) < (T.length : Int) := by omega
            have HR := Lib.hid (HR.out.ext HXW.out)
            have HU := Lib.hid (HU.out.ext HXW.out)
            have HLA := Lib.hid (HLA.out.ext HXW.out)
            obtain ⟨-, Tb, To, Tc, hTe, hTC⟩ := id HR.out
            simp only [Value.slice.injEq, Option.some.injEq, Addr.mk.injEq, and_true] at hTe
            obtain ⟨⟨rfl, rfl⟩, -, rfl⟩ := hTe
            obtain ⟨-, Ub, Uo, Uc, hUe, hUC⟩ := id HU.out
            simp only [Value.slice.injEq, Option.some.injEq, Addr.mk.injEq, and_true] at hUe
            obtain ⟨⟨rfl, rfl⟩, -, rfl⟩ := hUe
            have HTC := Lib.hid hTC
            have HUC := Lib.hid hUC
            clear k0 k1 hTC hUC
            go_wp2_with fail
            obtain ⟨w7, rfl⟩ : ∃ z : World, z = wr := ⟨_, rfl⟩
            go_loopw [12] (fun x wr => ∃ k : Nat, k ≤ T.length ∧ x = .int .i64 k ∧ Drawn w7 wr) (fun x _ => T.length - (intOf x).toNat)
            case atStart => exact ⟨0, Nat.zero_le _, rfl, Drawn.refl _⟩
            case round =>
              obtain ⟨x, hx, rfl, hd⟩ := hrel
              have HD := Lib.hid hd
              clear hd
              by_cases hxl : x < T.length
              case neg =>
                have hxi : ¬ (x : Int) < (T.length : Int) := by omega
                go_wp2
                go_ret
                exact ⟨rfl, HXX.out.trans HD.out.ext⟩
              case pos =>
                have hxi : (x : Int) < (T.length : Int) := by omega
                go_wp2_with fail
                go_loopw [13] (fun y wr => ∃ j : Nat, j ≤ T.length ∧ y = .int .i64 j ∧ Drawn w7 wr) (fun y _ => T.length - (intOf y).toNat)
                case atStart => exact ⟨0, Nat.zero_le _, rfl, HD.out⟩
                case round =>
                  clear HD
                  obtain ⟨y, hy, rfl, hd⟩ := hrel
                  have HD := Lib.hid hd
                  clear hd
                  by_cases hyl : y < T.length
                  case neg =>
                    have hyi : ¬ (y : Int) < (T.length : Int) := by omega
                    go_wp2
                    go_roundw
                    case rel => exact ⟨x + 1, by omega, by go_num, HD.out⟩
                    case measure => simp [intOf]; omega
                  case pos =>
                    have hyi : (y : Int) < (T.length : Int) := by omega
                    go_wp2_with fail
                    go_loopw [14] (fun z wr => ∃ l : Nat, l ≤ T.length ∧ z = .int .i64 l ∧ Drawn w7 wr) (fun z _ => T.length - (intOf z).toNat)
                    case atStart => exact ⟨0, Nat.zero_le _, rfl, HD.out⟩
                    case round =>
                      clear HD
                      obtain ⟨z, hz, rfl, hd⟩ := hrel
                      have HD := Lib.hid hd
                      clear hd
                      by_cases hzl : z < T.length
                      case neg =>
                        have hzi : ¬ (z : Int) < (T.length : Int) := by omega
                        have hxU : x < U.length := by rw [← HUL.out]; exact hxl
                        have hyU : y < U.length := by rw [← HUL.out]; exact hyl
                        obtain ⟨d1, s1, m1, r1, i1, n1⟩ := (HUC.out.ext HD.out.ext).get hxU
                        have lU := HGU.out.1.len hxU
                        have e1 := i1.ent lU (y := y) (by rw [← HUL.out]; exact hyl)
                        have bU := HGU.out.1.bd hxU (y := y) (by rw [← HUL.out]; exact hyl)
                        rw [lU] at r1
                        obtain ⟨d3, s3, m3, r3, i3, n3⟩ := (HLA.out.ext HD.out.ext).get (i := x) (by rw [HLT.out]; exact hxl)
                        have l3 := HLRW.out x hxl
                        have gk0 := HD.out.ext.cell k0'
                        have gk1 := HD.out.ext.cell k1'
                        rw [l3] at r3
                        obtain ⟨d2, s2, m2, r2, i2, n2⟩ := (HTC.out.ext HD.out.ext).get hxl
                        have l2 := HGT.out.1.len hxl
                        have b3 := HLB.out x y hxl hyl
                        have e3 := i3.ent l3 (y := y) hyl
                        rw [ent_mkT _ _ _ _ hxl hyl] at e3
                        obtain ⟨p, hp⟩ := Int.eq_ofNat_of_zero_le b3.1
                        have e2 := i2.ent l2 (y := p) (by omega)
                        have hV := HLL.out x y hxl hyl
                        rw [hp, Int.toNat_natCast] at hV
                        rw [hp] at e3
                        rw [hV] at e2
                        rw [l2] at r2
                        have hpl : p < T.length := by omega
                        obtain ⟨V, hVe⟩ : ∃ V, V = ent U x y := ⟨_, rfl⟩
                        rw [← hVe] at e1 e2
                        clear hVe hV hp bU lU l2 l3 i1 i2 i3 b3
                        go_wp2
                        go_quiet (fail)
                        go_wp2
                        go_roundw
                        case rel => exact ⟨y + 1, by omega, by go_num, HD.out.drewN _⟩
                        case measure => simp [intOf]; omega
                      case pos =>
                        have hzi : (z : Int) < (T.length : Int) := by omega
                        have hxU : x < U.length := by rw [← HUL.out]; exact hxl
                        have hyU : y < U.length := by rw [← HUL.out]; exact hyl
                        obtain ⟨d1, s1, m1, r1, i1, n1⟩ := (HUC.out.ext HD.out.ext).get hxU
                        have lU := HGU.out.1.len hxU
                        have e1 := i1.ent lU (y := y) (by rw [← HUL.out]; exact hyl)
                        have bU := HGU.out.1.bd hxU (y := y) (by rw [← HUL.out]; exact hyl)
                        rw [lU] at r1
                        obtain ⟨d3, s3, m3, r3, i3, n3⟩ := (HLA.out.ext HD.out.ext).get (i := x) (by rw [HLT.out]; exact hxl)
                        have l3 := HLRW.out x hxl
                        have gk0 := HD.out.ext.cell k0'
                        have gk1 := HD.out.ext.cell k1'
                        rw [l3] at r3
                        obtain ⟨q, hq⟩ := Int.eq_ofNat_of_zero_le (a := ent U x y) (by omega)
                        rw [hq] at e1 bU
                        have hqT : q < T.length := by have := HUL.out; omega
                        obtain ⟨d2, s2, m2, r2, i2, n2⟩ := (HLA.out.ext HD.out.ext).get (i := q) (by rw [HLT.out]; exact hqT)
                        have l2 := HLRW.out q hqT
                        have e2 := i2.ent l2 (y := z) hzl
                        rw [ent_mkT _ _ _ _ hqT hzl] at e2
                        rw [l2] at r2
                        obtain ⟨d4, s4, m4, r4, i4, n4⟩ := (HLA.out.ext HD.out.ext).get (i := y) (by rw [HLT.out]; exact hyl)
                        have l4 := HLRW.out y hyl
                        have e4 := i4.ent l4 (y := z) hzl
                        rw [ent_mkT _ _ _ _ hyl hzl] at e4
                        rw [l4] at r4
                        have b4 := HLB.out y z hyl hzl
                        obtain ⟨p, hp⟩ := Int.eq_ofNat_of_zero_le b4.1
                        have hpl : p < T.length := by omega
                        have e3 := i3.ent l3 (y := p) hpl
                        rw [ent_mkT _ _ _ _ hxl hpl] at e3
                        have hV := HLC.out x y z hxl hyl hzl
                        rw [hq, hp, Int.toNat_natCast, Int.toNat_natCast] at hV
                        rw [hp] at e4
                        rw [hV] at e2
                        obtain ⟨V, hVe⟩ : ∃ V, V = lamF T U x p := ⟨_, rfl⟩
                        rw [← hVe] at e3 e2
                        clear hVe hV hp hq bU lU l2 l3 l4 i1 i2 i3 i4 b4
                        go_wp2
                        go_quiet (fail)
                        go_wp2
                        go_roundw
                        case rel => exact ⟨z + 1, by omega, by go_num, HD.out.drewN _⟩
                        case measure => simp [intOf]; omega
end Go.Proofs.Ytjbloenjphpngaa
