/-
  Contracts of the program's functions on solutions, at solutions: IsPairMap, equationFault, collisionOf, IsSolution.
-/
import Derived.Test.YtjbloenjphpngaaGreatProg
import Derived.Deep.DeepCutAuto
import Derived.Deep.RegionWith
import Derived.BigQuiet
import Derived.Deep.OwnRows
import Derived.IntWalk
import Derived.Test.YtjbloenjphpngaaGreatKx0
import Derived.Test.YtjbloenjphpngaaGreatKx1
import Derived.Test.YtjbloenjphpngaaGreatKx6
import Derived.Test.YtjbloenjphpngaaGreatKx7
import Derived.Test.YtjbloenjphpngaaGreatKx8
import Derived.Test.YtjbloenjphpngaaGreatKx4
import Derived.Test.YtjbloenjphpngaaGreatKx22
import Derived.Test.YtjbloenjphpngaaGreatKx2
import Derived.Test.YtjbloenjphpngaaGreatKx3
import Derived.Test.YtjbloenjphpngaaGreatKx31
import Derived.Test.YtjbloenjphpngaaGreatKx9
namespace Go.Proofs.YtjbloenjphpngaaGreat
set_option linter.unusedVariables false
set_option linter.unusedSimpArgs false
open Go.RowKit
attribute [local go_sem ↓] Go.wp_at_zero Go.wp_at_succ
open Go.Deep

theorem table_small {t : List (List Int)} (h : TableOk t) : Small t := ⟨by have := h.2.1; omega, fun i => by
  by_cases hi : i < t.length
  · rw [h.len hi]; have := h.2.1; omega
  · rw [row_eq]; simp [List.getD, hi]⟩

theorem own_rows {lo hi : Nat} {w : World} {b : Nat} {t : List (List Int)} (h : OwnT lo hi w b 0 t) (hT : TableOk t) (c : Nat) : Rows w (.slice (some ⟨b, 0, none⟩) t.length c) t := (h.rowsAt (table_small hT)).rows (table_small hT).1 c

set_option maxRecDepth 100000 in
set_option maxHeartbeats 1000000 in
theorem IsPairMap_ok (L S : List (List Int)) (v y : Value) (w : World) (hv : Rows w v L) (hy : Rows w y S) (hL : TableOk L) (hS : TableOk S) (hl : S.length = L.length) :
    Calls Tryz.prog 24 #[.agg #[v, y]] w fun e w' => e = .returned (.bool true) ∧ Ext w w' := by
  obtain ⟨-, b, o, c, rfl, -⟩ := id hv
  obtain ⟨-, b2, o2, c2, rfl, -⟩ := id hy
  rw [hl] at hy ⊢
  have hx0 : Ext w (w.alloc (.cells #[.slice (some ⟨b, o, none⟩) L.length c, .slice (some ⟨b2, o2, none⟩) L.length c2] 29)) := (Ext.refl _).alloc _
  have k0 := cell_new2a w (.slice (some ⟨b, o, none⟩) L.length c) (.slice (some ⟨b2, o2, none⟩) L.length c2) 29
  have k1 := cell_new2b w (.slice (some ⟨b, o, none⟩) L.length c) (.slice (some ⟨b2, o2, none⟩) L.length c2) 29
  have h1 := tableB_iff.2 hL
  have h2 := tableB_iff.2 hS
  have HV := Lib.hid hv
  have HY := Lib.hid hy
  clear hv hy hl
  go_enter Tryz.func24, Tryz.ntmps24
  go_wp2_with fail
  generalize (w.alloc (.cells #[.slice (some ⟨b, o, none⟩) L.length c, .slice (some ⟨b2, o2, none⟩) L.length c2] 29)) = w1 at *
  refine (IsTable_any L _ _ (HV.out.ext hx0)).mono ?_
  rintro e w2 ⟨rfl, hx⟩
  rw [h1]
  replace k0 := hx.cell k0
  replace k1 := hx.cell k1
  go_wp2_with (go_at_call 51; refine (IsTable_any S _ _ (HY.out.ext (hx0.trans hx))).mono ?_; rintro e w3 ⟨rfl, hz⟩; rw [h2]; replace k0 := hz.cell k0; replace k1 := hz.cell k1)
  go_ret
  exact ⟨rfl, (hx0.trans hx).trans hz⟩

set_option maxRecDepth 100000 in
set_option maxHeartbeats 8000000 in
theorem equationFault_none (L S : List (List Int)) (v y : Value) (w : World) (hv : Rows w v L) (hy : Rows w y S) (hO : SolOk L S) :
    Calls Tryz.prog 38 #[.agg #[v, y]] w fun e w' => e = .returned (.slice none 0 0) ∧ Ext w w' := by
  obtain ⟨-, b, o, c, rfl, hvc⟩ := id hv
  obtain ⟨-, b2, o2, c2, rfl, hyc⟩ := id hy
  have h12 := hO.l.2.1
  have HSL := Lib.hid hO.len
  have HLR := Lib.hid (fun x (hx : x < L.length) => hO.l.len hx)
  have HSR := Lib.hid (fun x (hx : x < L.length) => show (row S x).length = L.length by rw [hO.s.len (by rw [hO.len]; exact hx), hO.len])
  rw [hO.len]
  have HE := Lib.hid hO.eq
  have HLN := Lib.hid (fun x y (hx : x < L.length) (hy : y < L.length) => hO.ln hx hy)
  have HSN := Lib.hid (fun x y (hx : x < L.length) (hy : y < L.length) => hO.sn hx hy)
  have hx0 : Ext w (w.alloc (.cells #[.slice (some ⟨b, o, none⟩) L.length c, .slice (some ⟨b2, o2, none⟩) L.length c2] 29)) := (Ext.refl _).alloc _
  have k0 := cell_new2a w (.slice (some ⟨b, o, none⟩) L.length c) (.slice (some ⟨b2, o2, none⟩) L.length c2) 29
  have k1 := cell_new2b w (.slice (some ⟨b, o, none⟩) L.length c) (.slice (some ⟨b2, o2, none⟩) L.length c2) 29
  have HV := Lib.hid (hvc.ext hx0)
  have HY := Lib.hid (hyc.ext hx0)
  clear hv hy hvc hyc hO
  obtain ⟨n, hn⟩ : ∃ n, n = L.length := ⟨_, rfl⟩
  rw [← hn] at h12 HSL HLR HSR HE HLN HSN hx0 k0 k1 HV HY ⊢
  have HN := Lib.hid hn
  clear hn
  go_enter Tryz.func38, Tryz.ntmps38
  go_wp2_with fail
  generalize (w.alloc (.cells #[.slice (some ⟨b, o, none⟩) n c, .slice (some ⟨b2, o2, none⟩) n c2] 29)) = w1 at *
  go_loopw [17] (fun i wr => ∃ x : Nat, x ≤ n ∧ i = .int .i64 x ∧ Drawn w1 wr) (fun i _ => n - (intOf i).toNat)
  case atStart => exact ⟨0, Nat.zero_le _, rfl, Drawn.refl _⟩
  case round =>
    obtain ⟨x, hx, rfl, hd⟩ := hrel
    have HD := Lib.hid hd
    clear hd
    by_cases hxl : x < n
    case neg =>
      have hxi : ¬ (x : Int) < (n : Int) := by omega
      go_wp2
      go_ret
      exact ⟨rfl, hx0.trans HD.out.ext⟩
    case pos =>
      have hxi : (x : Int) < (n : Int) := by omega
      go_wp2_with fail
      go_loopw [21] (fun i wr => ∃ y : Nat, y ≤ n ∧ i = .int .i64 y ∧ Drawn w1 wr) (fun i _ => n - (intOf i).toNat)
      case atStart => exact ⟨0, Nat.zero_le _, rfl, HD.out⟩
      case round =>
        clear HD
        obtain ⟨y, hy, rfl, hd⟩ := hrel
        have HD := Lib.hid hd
        clear hd
        by_cases hyl : y < n
        case neg =>
          have hyi : ¬ (y : Int) < (n : Int) := by omega
          go_wp2
          go_roundw
          case rel => exact ⟨x + 1, by omega, by go_num, HD.out⟩
          case measure => simp [intOf]; omega
        case pos =>
          have hyi : (y : Int) < (n : Int) := by omega
          go_wp2_with fail
          go_loopw [25] (fun i wr => ∃ z : Nat, z ≤ n ∧ i = .int .i64 z ∧ Drawn w1 wr) (fun i _ => n - (intOf i).toNat)
          case atStart => exact ⟨0, Nat.zero_le _, rfl, HD.out⟩
          case round =>
            clear HD
            obtain ⟨z, hz, rfl, hd⟩ := hrel
            have HD := Lib.hid hd
            clear hd
            by_cases hzl : z < n
            case neg =>
              have hzi : ¬ (z : Int) < (n : Int) := by omega
              go_wp2
              go_roundw
              case rel => exact ⟨y + 1, by omega, by go_num, HD.out⟩
              case measure => simp [intOf]; omega
            case pos =>
              have hzi : (z : Int) < (n : Int) := by omega
              have HEQ := Lib.hid (HE.out x hxl y hyl z hzl)
              have hbL1 := HLN.out x y hxl hyl
              have hbS1 := HSN.out x y hxl hyl
              obtain ⟨d1, s1, m1, r1, i1, n1⟩ := (HV.out.ext HD.out.ext).get (i := x) (by rw [← HN.out]; exact hxl)
              obtain ⟨f1, g1, j1, t1, u1, v1⟩ := (HY.out.ext HD.out.ext).get (i := x) (by rw [HSL.out]; exact hxl)
              have eL1 := i1.ent (HLR.out x hxl) (y := y) hyl
              have eS1 := u1.ent (HSR.out x hxl) (y := y) hyl
              rw [HLR.out x hxl] at r1
              rw [HSR.out x hxl] at t1
              rw [hbL1.1] at eL1
              rw [hbS1.1] at eS1
              obtain ⟨A, hA⟩ : ∃ q, q = mulN L x y := ⟨_, rfl⟩
              obtain ⟨B, hB⟩ : ∃ q, q = mulN S x y := ⟨_, rfl⟩
              rw [← hA] at eL1 hbL1
              rw [← hB] at eS1 hbS1
              have hAl := hbL1.2
              have hBl := hbS1.2
              have HA := Lib.hid hA
              have HB := Lib.hid hB
              have b0_1 := HD.out.ext.cell k0
              have b1_1 := HD.out.ext.cell k1
              clear hbL1 hbS1 i1 u1 n1 v1 hA hB
              go_wp2
              go_quiet (fail)
              go_wp2_with fail
              generalize hw1 : World.drewN _ _ = wq2
              have HDD2 := Lib.hid (show Drawn w1 wq2 from HD.out.trans ⟨_, hw1.symm⟩)
              clear hw1 r1 t1 eL1 eS1 b0_1 b1_1
              have hbL2 := HLN.out B z hBl hzl
              have hbS2 := HSN.out B z hBl hzl
              obtain ⟨d2, s2, m2, r2, i2, n2⟩ := (HV.out.ext HDD2.out.ext).get (i := B) (by rw [← HN.out]; exact hBl)
              obtain ⟨f2, g2, j2, t2, u2, v2⟩ := (HY.out.ext HDD2.out.ext).get (i := B) (by rw [HSL.out]; exact hBl)
              have eL2 := i2.ent (HLR.out B hBl) (y := z) hzl
              have eS2 := u2.ent (HSR.out B hBl) (y := z) hzl
              rw [HLR.out B hBl] at r2
              rw [HSR.out B hBl] at t2
              rw [hbL2.1] at eL2
              rw [hbS2.1] at eS2
              obtain ⟨B2, hB2⟩ : ∃ q, q = mulN L B z := ⟨_, rfl⟩
              obtain ⟨C, hC⟩ : ∃ q, q = mulN S B z := ⟨_, rfl⟩
              rw [← hB2] at eL2 hbL2
              rw [← hC] at eS2 hbS2
              have hB2l := hbL2.2
              have hCl := hbS2.2
              have HB2 := Lib.hid hB2
              have HC := Lib.hid hC
              have b0_2 := HDD2.out.ext.cell k0
              have b1_2 := HDD2.out.ext.cell k1
              clear hbL2 hbS2 i2 u2 n2 v2 hB2 hC
              go_wp2
              go_quiet (fail)
              go_wp2_with fail
              generalize hw2 : World.drewN _ _ = wq3
              have HDD3 := Lib.hid (show Drawn w1 wq3 from HDD2.out.trans ⟨_, hw2.symm⟩)
              clear hw2 r2 t2 eL2 eS2 b0_2 b1_2
              have hbL3 := HLN.out A B2 hAl hB2l
              have hbS3 := HSN.out A B2 hAl hB2l
              obtain ⟨d3, s3, m3, r3, i3, n3⟩ := (HV.out.ext HDD3.out.ext).get (i := A) (by rw [← HN.out]; exact hAl)
              obtain ⟨f3, g3, j3, t3, u3, v3⟩ := (HY.out.ext HDD3.out.ext).get (i := A) (by rw [HSL.out]; exact hAl)
              have eL3 := i3.ent (HLR.out A hAl) (y := B2) hB2l
              have eS3 := u3.ent (HSR.out A hAl) (y := B2) hB2l
              rw [HLR.out A hAl] at r3
              rw [HSR.out A hAl] at t3
              rw [hbL3.1] at eL3
              rw [hbS3.1] at eS3
              obtain ⟨A2, hA2⟩ : ∃ q, q = mulN L A B2 := ⟨_, rfl⟩
              obtain ⟨B3, hB3⟩ : ∃ q, q = mulN S A B2 := ⟨_, rfl⟩
              rw [← hA2] at eL3 hbL3
              rw [← hB3] at eS3 hbS3
              have hA2l := hbL3.2
              have hB3l := hbS3.2
              have HA2 := Lib.hid hA2
              have HB3 := Lib.hid hB3
              have b0_3 := HDD3.out.ext.cell k0
              have b1_3 := HDD3.out.ext.cell k1
              clear hbL3 hbS3 i3 u3 n3 v3 hA2 hB3
              go_wp2
              go_quiet (fail)
              go_wp2_with fail
              generalize hw3 : World.drewN _ _ = wq4
              have HDD4 := Lib.hid (show Drawn w1 wq4 from HDD3.out.trans ⟨_, hw3.symm⟩)
              clear hw3 r3 t3 eL3 eS3 b0_3 b1_3
              have hbL4 := HLN.out y z hyl hzl
              have hbS4 := HSN.out y z hyl hzl
              obtain ⟨d4, s4, m4, r4, i4, n4⟩ := (HV.out.ext HDD4.out.ext).get (i := y) (by rw [← HN.out]; exact hyl)
              obtain ⟨f4, g4, j4, t4, u4, v4⟩ := (HY.out.ext HDD4.out.ext).get (i := y) (by rw [HSL.out]; exact hyl)
              have eL4 := i4.ent (HLR.out y hyl) (y := z) hzl
              have eS4 := u4.ent (HSR.out y hyl) (y := z) hzl
              rw [HLR.out y hyl] at r4
              rw [HSR.out y hyl] at t4
              rw [hbL4.1] at eL4
              rw [hbS4.1] at eS4
              obtain ⟨E, hE⟩ : ∃ q, q = mulN L y z := ⟨_, rfl⟩
              obtain ⟨F, hF⟩ : ∃ q, q = mulN S y z := ⟨_, rfl⟩
              rw [← hE] at eL4 hbL4
              rw [← hF] at eS4 hbS4
              have hEl := hbL4.2
              have hFl := hbS4.2
              have HE_ := Lib.hid hE
              have HF := Lib.hid hF
              have b0_4 := HDD4.out.ext.cell k0
              have b1_4 := HDD4.out.ext.cell k1
              clear hbL4 hbS4 i4 u4 n4 v4 hE hF
              go_wp2
              go_quiet (fail)
              go_wp2_with fail
              generalize hw4 : World.drewN _ _ = wq5
              have HDD5 := Lib.hid (show Drawn w1 wq5 from HDD4.out.trans ⟨_, hw4.symm⟩)
              clear hw4 r4 t4 eL4 eS4 b0_4 b1_4
              have hbL5 := HLN.out x E hxl hEl
              have hbS5 := HSN.out x E hxl hEl
              obtain ⟨d5, s5, m5, r5, i5, n5⟩ := (HV.out.ext HDD5.out.ext).get (i := x) (by rw [← HN.out]; exact hxl)
              obtain ⟨f5, g5, j5, t5, u5, v5⟩ := (HY.out.ext HDD5.out.ext).get (i := x) (by rw [HSL.out]; exact hxl)
              have eL5 := i5.ent (HLR.out x hxl) (y := E) hEl
              have eS5 := u5.ent (HSR.out x hxl) (y := E) hEl
              rw [HLR.out x hxl] at r5
              rw [HSR.out x hxl] at t5
              rw [hbL5.1] at eL5
              rw [hbS5.1] at eS5
              obtain ⟨Dd, hDd⟩ : ∃ q, q = mulN L x E := ⟨_, rfl⟩
              obtain ⟨E2, hE2⟩ : ∃ q, q = mulN S x E := ⟨_, rfl⟩
              rw [← hDd] at eL5 hbL5
              rw [← hE2] at eS5 hbS5
              have hDdl := hbL5.2
              have hE2l := hbS5.2
              have HDd := Lib.hid hDd
              have HE2 := Lib.hid hE2
              have b0_5 := HDD5.out.ext.cell k0
              have b1_5 := HDD5.out.ext.cell k1
              clear hbL5 hbS5 i5 u5 n5 v5 hDd hE2
              go_wp2
              go_quiet (fail)
              go_wp2_with fail
              generalize hw5 : World.drewN _ _ = wq6
              have HDD6 := Lib.hid (show Drawn w1 wq6 from HDD5.out.trans ⟨_, hw5.symm⟩)
              clear hw5 r5 t5 eL5 eS5 b0_5 b1_5
              have hbL6 := HLN.out E2 F hE2l hFl
              have hbS6 := HSN.out E2 F hE2l hFl
              obtain ⟨d6, s6, m6, r6, i6, n6⟩ := (HV.out.ext HDD6.out.ext).get (i := E2) (by rw [← HN.out]; exact hE2l)
              obtain ⟨f6, g6, j6, t6, u6, v6⟩ := (HY.out.ext HDD6.out.ext).get (i := E2) (by rw [HSL.out]; exact hE2l)
              have eL6 := i6.ent (HLR.out E2 hE2l) (y := F) hFl
              have eS6 := u6.ent (HSR.out E2 hE2l) (y := F) hFl
              rw [HLR.out E2 hE2l] at r6
              rw [HSR.out E2 hE2l] at t6
              rw [hbL6.1] at eL6
              rw [hbS6.1] at eS6
              obtain ⟨E3, hE3⟩ : ∃ q, q = mulN L E2 F := ⟨_, rfl⟩
              obtain ⟨F2, hF2⟩ : ∃ q, q = mulN S E2 F := ⟨_, rfl⟩
              rw [← hE3] at eL6 hbL6
              rw [← hF2] at eS6 hbS6
              have hE3l := hbL6.2
              have hF2l := hbS6.2
              have HE3 := Lib.hid hE3
              have HF2 := Lib.hid hF2
              have b0_6 := HDD6.out.ext.cell k0
              have b1_6 := HDD6.out.ext.cell k1
              clear hbL6 hbS6 i6 u6 n6 v6 hE3 hF2
              go_wp2
              go_quiet (fail)
              generalize hw6 : World.drewN _ _ = wq7
              have HDD7 := Lib.hid (show Drawn w1 wq7 from HDD6.out.trans ⟨_, hw6.symm⟩)
              clear hw6 r6 t6 eL6 eS6 b0_6 b1_6
              have h1 : A2 = Dd := by rw [HA2.out, HDd.out, HB2.out, HA.out, HB.out, HE_.out]; exact HEQ.out.1
              have h2 : B3 = E3 := by rw [HB3.out, HE3.out, HA.out, HB2.out, HB.out, HE2.out, HE_.out, HF.out]; exact HEQ.out.2.1
              have h3 : C = F2 := by rw [HC.out, HF2.out, HB.out, HE2.out, HE_.out, HF.out]; exact HEQ.out.2.2
              subst h1
              subst h2
              subst h3
              go_wp2_with fail
              go_roundw
              case rel => exact ⟨z + 1, by omega, by go_num, HDD7.out⟩
              case measure => simp [intOf]; omega

set_option maxRecDepth 100000 in
set_option maxHeartbeats 8000000 in
theorem collisionOf_none (L S : List (List Int)) (v y : Value) (w : World) (hv : Rows w v L) (hy : Rows w y S) (hO : SolOk L S) :
    Calls Tryz.prog 37 #[.agg #[v, y]] w fun e w' => e = .returned (.slice none 0 0) ∧ Ext w w' := by
  obtain ⟨-, b, o, c, rfl, hvc⟩ := id hv
  obtain ⟨-, b2, o2, c2, rfl, hyc⟩ := id hy
  have h12 := hO.l.2.1
  have h1n := hO.l.1
  have HSL := Lib.hid hO.len
  have HLR := Lib.hid (fun x (hx : x < L.length) => hO.l.len hx)
  have HSR := Lib.hid (fun x (hx : x < L.length) => show (row S x).length = L.length by rw [hO.s.len (by rw [hO.len]; exact hx), hO.len])
  rw [hO.len]
  have HE := Lib.hid hO.inj
  have HLN := Lib.hid (fun x y (hx : x < L.length) (hy : y < L.length) => hO.ln hx hy)
  have HSN := Lib.hid (fun x y (hx : x < L.length) (hy : y < L.length) => hO.sn hx hy)
  have hx0 : Ext w (w.alloc (.cells #[.slice (some ⟨b, o, none⟩) L.length c, .slice (some ⟨b2, o2, none⟩) L.length c2] 29)) := (Ext.refl _).alloc _
  have k0 := cell_new2a w (.slice (some ⟨b, o, none⟩) L.length c) (.slice (some ⟨b2, o2, none⟩) L.length c2) 29
  have k1 := cell_new2b w (.slice (some ⟨b, o, none⟩) L.length c) (.slice (some ⟨b2, o2, none⟩) L.length c2) 29
  have HV := Lib.hid (hvc.ext hx0)
  have HY := Lib.hid (hyc.ext hx0)
  clear hv hy hvc hyc hO
  obtain ⟨n, hn⟩ : ∃ n, n = L.length := ⟨_, rfl⟩
  rw [← hn] at h12 h1n HSL HLR HSR HE HLN HSN hx0 k0 k1 HV HY ⊢
  have HN := Lib.hid hn
  clear hn
  obtain ⟨N, hNe⟩ : ∃ N : Nat, N = n * n := ⟨_, rfl⟩
  have hnm := cast_mul' n n N hNe
  have hN144 : N ≤ 144 := by rw [hNe]; exact Nat.mul_le_mul h12 h12
  have hn0 : ¬ (n : Int) = 0 := by omega
  have hn0b : ((n : Int) == 0) = false := by simp; omega
  have HK := Lib.hid (fun k (hk : k < N) => show k < n * n by omega)
  clear hNe
  go_enter Tryz.func37, Tryz.ntmps37
  go_wp2_with fail
  generalize (w.alloc (.cells #[.slice (some ⟨b, o, none⟩) n c, .slice (some ⟨b2, o2, none⟩) n c2] 29)) = w1 at *
  go_loopw [16] (fun i wr => ∃ k : Nat, k ≤ N ∧ i = .int .i64 k ∧ Drawn w1 wr) (fun i _ => N - (intOf i).toNat)
  case atStart => exact ⟨0, Nat.zero_le _, rfl, Drawn.refl _⟩
  case round =>
    obtain ⟨k, hk, rfl, hd⟩ := hrel
    have HD := Lib.hid hd
    clear hd
    by_cases hkl : k < N
    case neg =>
      have hki : ¬ (k : Int) < (N : Int) := by omega
      go_wp2
      go_ret
      exact ⟨rfl, hx0.trans HD.out.ext⟩
    case pos =>
      have hki : (k : Int) < (N : Int) := by omega
      obtain ⟨q1, z1, hq1, hz1, lq1, lz1, dq1, dz1⟩ := divs (HK.out k hkl)
      obtain ⟨tq1, tz1⟩ := tdivs hq1 hz1
      have wq1 : IntKind.i64.wrap (q1 : Int) = (q1 : Int) := IntWalk.i64_in _ (by omega)
      have wz1 : IntKind.i64.wrap (z1 : Int) = (z1 : Int) := IntWalk.i64_in _ (by omega)
      have D1 := Lib.hid (And.intro dq1 dz1)
      clear hq1 hz1 dq1 dz1
      go_wp2
      go_quiet (fail)
      go_wp2_with fail
      generalize hw2 : World.drewN _ _ = w2
      have HD2 := Lib.hid (show Drawn w1 w2 from HD.out.trans ⟨_, hw2.symm⟩)
      clear hw2 tq1 tz1 wq1 wz1
      go_loopw [28] (fun i wr => ∃ j : Nat, j ≤ N ∧ i = .int .i64 j ∧ Drawn w1 wr) (fun i _ => N - (intOf i).toNat)
      case atStart => exact ⟨0, Nat.zero_le _, rfl, HD2.out⟩
      case round =>
        clear HD2 HD
        obtain ⟨j, hj, rfl, hd⟩ := hrel
        have HD := Lib.hid hd
        clear hd
        by_cases hjl : j < N
        case neg =>
          have hji : ¬ (j : Int) < (N : Int) := by omega
          go_wp2
          go_roundw
          case rel => exact ⟨k + 1, by omega, by go_num, HD.out⟩
          case measure => simp [intOf]; omega
        case pos =>
          have hji : (j : Int) < (N : Int) := by omega
          obtain ⟨q2, z2, hq2, hz2, lq2, lz2, dq2, dz2⟩ := divs (HK.out j hjl)
          obtain ⟨tq2, tz2⟩ := tdivs hq2 hz2
          have wq2 : IntKind.i64.wrap (q2 : Int) = (q2 : Int) := IntWalk.i64_in _ (by omega)
          have wz2 : IntKind.i64.wrap (z2 : Int) = (z2 : Int) := IntWalk.i64_in _ (by omega)
          have D2 := Lib.hid (And.intro dq2 dz2)
          clear hq2 hz2 dq2 dz2
          go_wp2
          go_quiet (fail)
          go_wp2_with fail
          generalize hw3 : World.drewN _ _ = w3
          have HD3 := Lib.hid (show Drawn w1 w3 from HD.out.trans ⟨_, hw3.symm⟩)
          clear hw3 tq2 tz2 wq2 wz2
          by_cases hkj : k = j
          case pos =>
            subst hkj
            have hkb : ((k : Int) != (k : Int)) = false := by simp
            go_wp2
            go_quiet (fail)
            go_wp2
            go_roundw
            case rel => exact ⟨k + 1, by omega, by go_num, HD3.out.drewN _⟩
            case measure => simp [intOf]; omega
          case neg =>
            have hkb : ((k : Int) != (j : Int)) = true := by simp; omega
            have hki2 : ¬ (k : Int) = (j : Int) := by omega
            have HNE := Lib.hid (show mulN L q1 z1 = mulN L q2 z2 → mulN S q1 z1 = mulN S q2 z2 → False from fun e1 e2 => by
              obtain ⟨g1, g2⟩ := HE.out q1 lq1 z1 lz1 q2 lq2 z2 lz2 e1 e2
              have a1 := Nat.div_add_mod k n
              have a2 := Nat.div_add_mod j n
              rw [D1.out.1, D1.out.2, g1, g2] at a1
              rw [D2.out.1, D2.out.2] at a2
              omega)
            have hL1 := HLN.out q1 z1 lq1 lz1
            have hL2 := HLN.out q2 z2 lq2 lz2
            have hS1 := HSN.out q1 z1 lq1 lz1
            have hS2 := HSN.out q2 z2 lq2 lz2
            obtain ⟨d1, s1, m1, r1, i1, -⟩ := (HV.out.ext HD3.out.ext).get (i := q1) (by rw [← HN.out]; exact lq1)
            obtain ⟨d2, s2, m2, r2, i2, -⟩ := (HV.out.ext HD3.out.ext).get (i := q2) (by rw [← HN.out]; exact lq2)
            obtain ⟨f1, g1, j1, t1, u1, -⟩ := (HY.out.ext HD3.out.ext).get (i := q1) (by rw [HSL.out]; exact lq1)
            obtain ⟨f2, g2, j2, t2, u2, -⟩ := (HY.out.ext HD3.out.ext).get (i := q2) (by rw [HSL.out]; exact lq2)
            have e1 := i1.ent (HLR.out q1 lq1) (y := z1) lz1
            have e2 := i2.ent (HLR.out q2 lq2) (y := z2) lz2
            have e3 := u1.ent (HSR.out q1 lq1) (y := z1) lz1
            have e4 := u2.ent (HSR.out q2 lq2) (y := z2) lz2
            rw [HLR.out q1 lq1] at r1
            rw [HLR.out q2 lq2] at r2
            rw [HSR.out q1 lq1] at t1
            rw [HSR.out q2 lq2] at t2
            rw [hL1.1] at e1
            rw [hL2.1] at e2
            rw [hS1.1] at e3
            rw [hS2.1] at e4
            obtain ⟨A1, hA1⟩ : ∃ q, q = mulN L q1 z1 := ⟨_, rfl⟩
            obtain ⟨A2, hA2⟩ : ∃ q, q = mulN L q2 z2 := ⟨_, rfl⟩
            obtain ⟨B1, hB1⟩ : ∃ q, q = mulN S q1 z1 := ⟨_, rfl⟩
            obtain ⟨B2, hB2⟩ : ∃ q, q = mulN S q2 z2 := ⟨_, rfl⟩
            rw [← hA1] at e1 HNE
            rw [← hA2] at e2 HNE
            rw [← hB1] at e3 HNE
            rw [← hB2] at e4 HNE
            have b0 := HD3.out.ext.cell k0
            have b1 := HD3.out.ext.cell k1
            clear hA1 hA2 hB1 hB2 hL1 hL2 hS1 hS2 i1 i2 u1 u2
            by_cases hA : A1 = A2
            case neg =>
              have hAb : ((A1 : Int) == (A2 : Int)) = false := by simp; omega
              go_wp2
              go_quiet (fail)
              go_wp2
              go_roundw
              case rel => exact ⟨j + 1, by omega, by go_num, HD3.out.drewN _⟩
              case measure => simp [intOf]; omega
            case pos =>
              have hB : ¬ B1 = B2 := fun h => HNE.out hA h
              subst hA
              have hBb : ((B1 : Int) == (B2 : Int)) = false := by simp; omega
              go_wp2
              go_quiet (fail)
              go_wp2
              go_roundw
              case rel => exact ⟨j + 1, by omega, by go_num, HD3.out.drewN _⟩
              case measure => simp [intOf]; omega

set_option maxRecDepth 100000 in
set_option maxHeartbeats 1000000 in
theorem IsSolution_ok (L S : List (List Int)) (v y : Value) (w : World) (hv : Rows w v L) (hy : Rows w y S) (hO : SolOk L S) :
    Calls Tryz.prog 17 #[.agg #[v, y]] w fun e w' => e = .returned (.bool true) ∧ Ext w w' := by
  obtain ⟨-, b, o, c, rfl, -⟩ := id hv
  obtain ⟨-, b2, o2, c2, rfl, -⟩ := id hy
  have hx0 : Ext w (w.alloc (.cells #[.slice (some ⟨b, o, none⟩) L.length c, .slice (some ⟨b2, o2, none⟩) S.length c2] 29)) := (Ext.refl _).alloc _
  have k0 := cell_new2a w (.slice (some ⟨b, o, none⟩) L.length c) (.slice (some ⟨b2, o2, none⟩) S.length c2) 29
  have k1 := cell_new2b w (.slice (some ⟨b, o, none⟩) L.length c) (.slice (some ⟨b2, o2, none⟩) S.length c2) 29
  have HV := Lib.hid hv
  have HY := Lib.hid hy
  have he : ∀ w : World, (binOp .eql 53 (.slice none 0 0) (.slice none 0 0)).run Tryz.prog w = .ok (.bool true) w := fun _ => rfl
  clear hv hy
  go_enter Tryz.func17, Tryz.ntmps17
  go_wp2_with fail
  generalize (w.alloc (.cells #[.slice (some ⟨b, o, none⟩) L.length c, .slice (some ⟨b2, o2, none⟩) S.length c2] 29)) = w1 at *
  refine (IsPairMap_ok L S _ _ _ (HV.out.ext hx0) (HY.out.ext hx0) hO.l hO.s hO.len).mono ?_
  rintro e w2 ⟨rfl, hx⟩
  replace k0 := hx.cell k0
  replace k1 := hx.cell k1
  go_wp2_with (first
    | (go_at_call 38; refine (equationFault_none L S _ _ _ (HV.out.ext ((hx0.trans hx).trans hz)) (HY.out.ext ((hx0.trans hx).trans hz)) hO).mono ?_; rintro e w4 ⟨rfl, hy4⟩)
    | (go_at_call 37; refine (collisionOf_none L S _ _ _ (HV.out.ext (hx0.trans hx)) (HY.out.ext (hx0.trans hx)) hO).mono ?_; rintro e w3 ⟨rfl, hz⟩; replace k0 := hz.cell k0; replace k1 := hz.cell k1))
  go_ret
  exact ⟨rfl, ((hx0.trans hx).trans hz).trans hy4⟩

end Go.Proofs.YtjbloenjphpngaaGreat

/-
  Contracts of the program's isNondegenerate, isInvolutive and what is exported of them.
-/
namespace Go.Proofs.YtjbloenjphpngaaGreat
set_option linter.unusedVariables false
set_option linter.unusedSimpArgs false
open Go.RowKit
attribute [local go_sem ↓] Go.wp_at_zero Go.wp_at_succ
open Go.Deep

set_option maxRecDepth 100000 in
set_option maxHeartbeats 1000000 in
theorem isNondegenerate_ok (L S : List (List Int)) (v y : Value) (w : World) (hv : Rows w v L) (hy : Rows w y S) (hS : TableOk S) (h1 : permRowsB L = true) (h2 : permRowsB (turnT S) = true) :
    Calls Tryz.prog 25 #[.agg #[v, y]] w fun e w' => e = .returned (.bool true) ∧ Ext w w' := by
  obtain ⟨-, b, o, c, rfl, -⟩ := id hv
  obtain ⟨-, b2, o2, c2, rfl, -⟩ := id hy
  have hx0 : Ext w (w.alloc (.cells #[.slice (some ⟨b, o, none⟩) L.length c, .slice (some ⟨b2, o2, none⟩) S.length c2] 29)) := (Ext.refl _).alloc _
  have k0 := cell_new2a w (.slice (some ⟨b, o, none⟩) L.length c) (.slice (some ⟨b2, o2, none⟩) S.length c2) 29
  have k1 := cell_new2b w (.slice (some ⟨b, o, none⟩) L.length c) (.slice (some ⟨b2, o2, none⟩) S.length c2) 29
  have HV := Lib.hid hv
  have HY := Lib.hid hy
  clear hv hy
  go_enter Tryz.func25, Tryz.ntmps25
  go_wp2_with fail
  generalize (w.alloc (.cells #[.slice (some ⟨b, o, none⟩) L.length c, .slice (some ⟨b2, o2, none⟩) S.length c2] 29)) = w1 at *
  refine (permutationRows_any L _ _ (HV.out.ext hx0)).mono ?_
  rintro e w2 ⟨rfl, hx⟩
  rw [h1]
  replace k0 := hx.cell k0
  replace k1 := hx.cell k1
  go_wp2_with (first
    | (go_at_call 52; refine (permutationRows_any (turnT S) _ _ (own_rows hoA (turn_ok hS) cA)).mono ?_; rintro e w4 ⟨rfl, hz⟩; rw [h2])
    | (go_at_call 28; refine (transposed_any S _ _ (HY.out.ext (hx0.trans hx)) hS).mono ?_; rintro e w3 ⟨bA, cA, rfl, hoA, hxA⟩))
  go_ret
  exact ⟨rfl, ((hx0.trans hx).trans hxA).trans hz⟩

set_option maxRecDepth 100000 in
set_option maxHeartbeats 1000000 in
theorem IsNondegenerate_ok (L S : List (List Int)) (v y : Value) (w : World) (hv : Rows w v L) (hy : Rows w y S) (hO : SolOk L S) (h1 : permRowsB L = true) (h2 : permRowsB (turnT S) = true) :
    Calls Tryz.prog 9 #[.agg #[v, y]] w (RetBI true 0 w) := by
  obtain ⟨-, b, o, c, rfl, -⟩ := id hv
  obtain ⟨-, b2, o2, c2, rfl, -⟩ := id hy
  have hx0 : Ext w (w.alloc (.cells #[.slice (some ⟨b, o, none⟩) L.length c, .slice (some ⟨b2, o2, none⟩) S.length c2] 29)) := (Ext.refl _).alloc _
  have k0 := cell_new2a w (.slice (some ⟨b, o, none⟩) L.length c) (.slice (some ⟨b2, o2, none⟩) S.length c2) 29
  have k1 := cell_new2b w (.slice (some ⟨b, o, none⟩) L.length c) (.slice (some ⟨b2, o2, none⟩) S.length c2) 29
  have HV := Lib.hid hv
  have HY := Lib.hid hy
  clear hv hy
  go_enter Tryz.func9, Tryz.ntmps9
  go_wp2_with fail
  generalize (w.alloc (.cells #[.slice (some ⟨b, o, none⟩) L.length c, .slice (some ⟨b2, o2, none⟩) S.length c2] 29)) = w1 at *
  refine (IsPairMap_ok L S _ _ _ (HV.out.ext hx0) (HY.out.ext hx0) hO.l hO.s hO.len).mono ?_
  rintro e w2 ⟨rfl, hx⟩
  replace k0 := hx.cell k0
  replace k1 := hx.cell k1
  go_wp2_with fail
  refine (isNondegenerate_ok L S _ _ _ (HV.out.ext (hx0.trans hx)) (HY.out.ext (hx0.trans hx)) hO.s h1 h2).mono ?_
  rintro e w3 ⟨rfl, hz⟩
  go_wp2
  go_ret2
  exact ⟨rfl, (hx0.trans hx).trans hz⟩

set_option maxRecDepth 100000 in
set_option maxHeartbeats 4000000 in
theorem isInvolutive_any (L S : List (List Int)) (v y : Value) (w : World) (hv : Rows w v L) (hy : Rows w y S) (hO : SolOk L S) :
    Calls Tryz.prog 26 #[.agg #[v, y]] w fun e w' => e = .returned (.bool (invB L.length (mulN L) (mulN S))) ∧ Ext w w' := by
  obtain ⟨-, b, o, c, rfl, hvc⟩ := id hv
  obtain ⟨-, b2, o2, c2, rfl, hyc⟩ := id hy
  have h12 := hO.l.2.1
  have HSL := Lib.hid hO.len
  have HLR := Lib.hid (fun x (hx : x < L.length) => hO.l.len hx)
  have HSR := Lib.hid (fun x (hx : x < L.length) => show (row S x).length = L.length by rw [hO.s.len (by rw [hO.len]; exact hx), hO.len])
  rw [hO.len]
  have HLN := Lib.hid (fun x y (hx : x < L.length) (hy : y < L.length) => hO.ln hx hy)
  have HSN := Lib.hid (fun x y (hx : x < L.length) (hy : y < L.length) => hO.sn hx hy)
  have HIY := Lib.hid (@invB_yes L.length (mulN L) (mulN S))
  have HIN := Lib.hid (fun x y (hx : x < L.length) (hy : y < L.length) => @invB_no L.length (mulN L) (mulN S) x y hx hy)
  have hx0 : Ext w (w.alloc (.cells #[.slice (some ⟨b, o, none⟩) L.length c, .slice (some ⟨b2, o2, none⟩) L.length c2] 29)) := (Ext.refl _).alloc _
  have k0 := cell_new2a w (.slice (some ⟨b, o, none⟩) L.length c) (.slice (some ⟨b2, o2, none⟩) L.length c2) 29
  have k1 := cell_new2b w (.slice (some ⟨b, o, none⟩) L.length c) (.slice (some ⟨b2, o2, none⟩) L.length c2) 29
  have HV := Lib.hid (hvc.ext hx0)
  have HY := Lib.hid (hyc.ext hx0)
  clear hv hy hvc hyc hO
  obtain ⟨I, hI⟩ : ∃ I, I = invB L.length (mulN L) (mulN S) := ⟨_, rfl⟩
  rw [← hI] at HIY HIN ⊢
  obtain ⟨n, hn⟩ : ∃ n, n = L.length := ⟨_, rfl⟩
  rw [← hn] at h12 HSL HLR HSR HLN HSN hx0 k0 k1 HV HY HIY HIN ⊢
  have HN := Lib.hid hn
  clear hn hI
  go_enter Tryz.func26, Tryz.ntmps26
  go_wp2_with fail
  generalize (w.alloc (.cells #[.slice (some ⟨b, o, none⟩) n c, .slice (some ⟨b2, o2, none⟩) n c2] 29)) = w1 at *
  go_loopw [11] (fun i wr => ∃ x : Nat, x ≤ n ∧ i = .int .i64 x ∧ (∀ a, a < x → ∀ d, d < n → InvAt (mulN L) (mulN S) a d) ∧ Drawn w1 wr) (fun i _ => n - (intOf i).toNat)
  case atStart => exact ⟨0, Nat.zero_le _, rfl, fun a ha => absurd ha (Nat.not_lt_zero _), Drawn.refl _⟩
  case round =>
    obtain ⟨x, hx, rfl, hp, hd⟩ := hrel
    have HP := Lib.hid hp
    have HD := Lib.hid hd
    clear hp hd
    by_cases hxl : x < n
    case neg =>
      have hxi : ¬ (x : Int) < (n : Int) := by omega
      have HI := Lib.hid (HIY.out (fun a ha d hd => HP.out a (by omega) d hd))
      go_wp2
      go_ret
      exact ⟨ret_bool HI.out.symm, hx0.trans HD.out.ext⟩
    case pos =>
      have hxi : (x : Int) < (n : Int) := by omega
      obtain ⟨d1, s1, m1, r1, i1, n1⟩ := (HV.out.ext HD.out.ext).get (i := x) (by rw [← HN.out]; exact hxl)
      rw [HLR.out x hxl] at r1
      have HI1 := Lib.hid i1
      clear i1 n1
      go_wp2_with fail
      obtain ⟨w2, rfl⟩ : ∃ z : World, z = wr := ⟨_, rfl⟩
      go_loopw [18] (fun i wr => ∃ y : Nat, y ≤ n ∧ i = .int .i64 y ∧ (∀ d, d < y → InvAt (mulN L) (mulN S) x d) ∧ Drawn w2 wr) (fun i _ => n - (intOf i).toNat)
      case atStart => exact ⟨0, Nat.zero_le _, rfl, fun a ha => absurd ha (Nat.not_lt_zero _), Drawn.refl _⟩
      case round =>
        obtain ⟨y, hy, rfl, hq, hd2⟩ := hrel
        have HQ := Lib.hid hq
        have HD2 := Lib.hid hd2
        clear hq hd2
        by_cases hyl : y < n
        case neg =>
          have hyi : ¬ (y : Int) < (n : Int) := by omega
          have HZ := Lib.hid (show ∀ a, a < x + 1 → ∀ d, d < n → InvAt (mulN L) (mulN S) a d from fun a ha d hd => by
            rcases Nat.lt_succ_iff_lt_or_eq.1 ha with h | h
            · exact HP.out a h d hd
            · rw [h]; exact HQ.out d (by omega))
          go_wp2
          go_roundw
          case rel => exact ⟨x + 1, by omega, by go_num, HZ.out, HD.out.trans HD2.out⟩
          case measure => simp [intOf]; omega
        case pos =>
          have hyi : (y : Int) < (n : Int) := by omega
          have HDD := Lib.hid (HD.out.trans HD2.out)
          have hL := HLN.out x y hxl hyl
          have hS := HSN.out x y hxl hyl
          have eL := HD2.out.ext.cell (HI1.out.ent (HLR.out x hxl) (y := y) hyl)
          obtain ⟨f1, g1, j1, t1, u1, v1⟩ := (HY.out.ext HDD.out.ext).get (i := x) (by rw [HSL.out]; exact hxl)
          have eS := u1.ent (HSR.out x hxl) (y := y) hyl
          rw [HSR.out x hxl] at t1
          rw [hL.1] at eL
          rw [hS.1] at eS
          obtain ⟨A, hA⟩ : ∃ q, q = mulN L x y := ⟨_, rfl⟩
          obtain ⟨B, hB⟩ : ∃ q, q = mulN S x y := ⟨_, rfl⟩
          rw [← hA] at eL hL
          rw [← hB] at eS hS
          have hAl := hL.2
          have hBl := hS.2
          have HA := Lib.hid hA
          have HB := Lib.hid hB
          have hL2 := HLN.out A B hAl hBl
          have hS2 := HSN.out A B hAl hBl
          obtain ⟨d2, s2, m2, r2, i2, n2⟩ := (HV.out.ext HDD.out.ext).get (i := A) (by rw [← HN.out]; exact hAl)
          obtain ⟨f2, g2, j2, t2, u2, v2⟩ := (HY.out.ext HDD.out.ext).get (i := A) (by rw [HSL.out]; exact hAl)
          have eL2 := i2.ent (HLR.out A hAl) (y := B) hBl
          have eS2 := u2.ent (HSR.out A hAl) (y := B) hBl
          rw [HLR.out A hAl] at r2
          rw [HSR.out A hAl] at t2
          rw [hL2.1] at eL2
          rw [hS2.1] at eS2
          have b0 := HDD.out.ext.cell k0
          have b1 := HDD.out.ext.cell k1
          clear hL hS hL2 hS2 i2 u1 u2 n2 v1 v2 hA hB
          by_cases h1 : mulN L A B = x
          case neg =>
            have HF := Lib.hid (HIN.out x y hxl hyl (fun h => h1 (by rw [HA.out, HB.out]; exact h.1)))
            have h1b : ((mulN L A B : Nat) : Int) ≠ (x : Int) := by omega
            have h1c : (((mulN L A B : Nat) : Int) != (x : Int)) = true := by simp; omega
            go_wp2
            go_ret
            exact ⟨ret_bool HF.out.symm, hx0.trans HDD.out.ext⟩
          case pos =>
            rw [h1] at eL2
            by_cases h2 : mulN S A B = y
            case neg =>
              have HF := Lib.hid (HIN.out x y hxl hyl (fun h => h2 (by rw [HA.out, HB.out]; exact h.2)))
              have h1b : ((mulN S A B : Nat) : Int) ≠ (y : Int) := by omega
              have h1c : (((mulN S A B : Nat) : Int) != (y : Int)) = true := by simp; omega
              go_wp2
              go_ret
              exact ⟨ret_bool HF.out.symm, hx0.trans HDD.out.ext⟩
            case pos =>
              rw [h2] at eS2
              have HZ := Lib.hid (show ∀ d, d < y + 1 → InvAt (mulN L) (mulN S) x d from fun d hd => by
                rcases Nat.lt_succ_iff_lt_or_eq.1 hd with h | h
                · exact HQ.out d h
                · rw [h]
                  unfold InvAt
                  rw [← HA.out, ← HB.out]
                  exact ⟨h1, h2⟩)
              go_wp2
              go_roundw
              case rel => exact ⟨y + 1, by omega, by go_num, HZ.out, HD2.out⟩
              case measure => simp [intOf]; omega

set_option maxRecDepth 100000 in
set_option maxHeartbeats 1000000 in
theorem IsInvolutive_any (L S : List (List Int)) (v y : Value) (w : World) (hv : Rows w v L) (hy : Rows w y S) (hO : SolOk L S) :
    Calls Tryz.prog 10 #[.agg #[v, y]] w (RetBI (invB L.length (mulN L) (mulN S)) 0 w) := by
  obtain ⟨-, b, o, c, rfl, -⟩ := id hv
  obtain ⟨-, b2, o2, c2, rfl, -⟩ := id hy
  have hx0 : Ext w (w.alloc (.cells #[.slice (some ⟨b, o, none⟩) L.length c, .slice (some ⟨b2, o2, none⟩) S.length c2] 29)) := (Ext.refl _).alloc _
  have k0 := cell_new2a w (.slice (some ⟨b, o, none⟩) L.length c) (.slice (some ⟨b2, o2, none⟩) S.length c2) 29
  have k1 := cell_new2b w (.slice (some ⟨b, o, none⟩) L.length c) (.slice (some ⟨b2, o2, none⟩) S.length c2) 29
  have HV := Lib.hid hv
  have HY := Lib.hid hy
  clear hv hy
  go_enter Tryz.func10, Tryz.ntmps10
  go_wp2_with fail
  generalize (w.alloc (.cells #[.slice (some ⟨b, o, none⟩) L.length c, .slice (some ⟨b2, o2, none⟩) S.length c2] 29)) = w1 at *
  refine (IsPairMap_ok L S _ _ _ (HV.out.ext hx0) (HY.out.ext hx0) hO.l hO.s hO.len).mono ?_
  rintro e w2 ⟨rfl, hx⟩
  replace k0 := hx.cell k0
  replace k1 := hx.cell k1
  go_wp2_with fail
  refine (isInvolutive_any L S _ _ _ (HV.out.ext (hx0.trans hx)) (HY.out.ext (hx0.trans hx)) hO).mono ?_
  rintro e w3 ⟨rfl, hz⟩
  go_wp2
  go_ret2
  exact ⟨rfl, (hx0.trans hx).trans hz⟩
end Go.Proofs.YtjbloenjphpngaaGreat

/-
  Contracts of the program's derivedRack and DerivedRack, at nondegenerate solutions.
-/
namespace Go.Proofs.YtjbloenjphpngaaGreat
set_option linter.unusedVariables false
set_option linter.unusedSimpArgs false
open Go.RowKit
attribute [local go_sem ↓] Go.wp_at_zero Go.wp_at_succ
open Go.Deep

/-- a rack and no error -/
def RetGN (t : List (List Int)) (n : Nat) (w : World) (e : Ending) (w' : World) : Prop := ∃ b c, e = .returned (.tuple #[.agg #[.slice (some ⟨b, 0, none⟩) n c], .int .i64 0]) ∧ Rows w' (.slice (some ⟨b, 0, none⟩) n c) t ∧ Ext w w'

theorem ix_found {n : Nat} {p : List Int} (hp : IsoOk n [] [] p) {y : Nat} (hy : y < n) : ∃ x : Nat, x < n ∧ indexOf p y = (x : Int) := by
  obtain ⟨x, hx, e⟩ := hp.surj hy
  have := indexOf_at hp hx
  rw [e] at this
  exact ⟨x, hx, this⟩

theorem row_iso {L : List (List Int)} (hL : TableOk L) (h1 : permRowsB L = true) {x : Nat} (hx : x < L.length) : IsoOk L.length [] [] (row L x) := ⟨hL.len hx, permRowsB_iff.1 h1 x hx, fun k hk => by simp at hk⟩

set_option maxRecDepth 100000 in
set_option maxHeartbeats 2000000 in
theorem derivedRack1_any (L S : List (List Int)) (v y : Value) (i j B : Nat) (w : World) (hB : w.cell? ⟨B, 0, none⟩ = some v) (hB1 : w.cell? ⟨B, 1, none⟩ = some y) (hv : Rows w v L) (hy : Rows w y S) (hO : SolOk L S) (h1 : permRowsB L = true) (hi : i < L.length) (hj : j < L.length) :
    Calls Tryz.prog 56 #[.int .i64 i, .int .i64 j, .pointer (some ⟨B, 0, none⟩)] w fun e w' => e = .returned (.int .i64 (derF L S i j)) ∧ Ext w w' := by
  obtain ⟨-, b, o, c, rfl, hvc⟩ := id hv
  obtain ⟨-, b2, o2, c2, rfl, hyc⟩ := id hy
  have hp := row_iso hO.l h1 hj
  obtain ⟨z, hz, ez⟩ := ix_found hp hi
  obtain ⟨d1, s1, m1, r1, i1, n1⟩ := hvc.get hj
  have HI1 := Lib.hid (i1.ints n1 m1)
  obtain ⟨d2, s2, m2, r2, i2, n2⟩ := hvc.get hi
  obtain ⟨f1, g1, j1, t1, u1, w1⟩ := hyc.get (i := j) (by rw [hO.len]; exact hj)
  have hS := hO.sn hj hz
  have e1 := u1.ent (n := L.length) (by rw [hO.s.len (by rw [hO.len]; exact hj), hO.len]) (y := z) hz
  have e2 := i2.ent (hO.l.len hi) (y := mulN S j z) hS.2
  have hD := derF_def L S i j
  rw [ez, Int.toNat_natCast] at hD
  rw [hS.1] at e1
  rw [show (ent S j z).toNat = mulN S j z from rfl] at hD
  rw [hD] at e2
  rw [hO.l.len hj] at r1 HI1
  rw [hO.l.len hi] at r2
  rw [hO.s.len (by rw [hO.len]; exact hj)] at t1
  rw [hO.len] at t1 hB1
  have hbl := hS.2
  have HEZ := Lib.hid ez
  obtain ⟨D, hDe⟩ : ∃ D, D = derF L S i j := ⟨_, rfl⟩
  obtain ⟨Q, hQe⟩ : ∃ Q, Q = mulN S j z := ⟨_, rfl⟩
  rw [← hDe] at e2 ⊢
  rw [← hQe] at e1 e2 hbl
  clear hD hDe hQe hS u1 i2 i1 hp n1 n2 ez hO hv hy hvc hyc
  go_enter Tryz.func56, Tryz.ntmps56
  go_wp2_with fail
  refine (indexIn_any (row L j) _ (i : Int) _ HI1.out).mono ?_
  rintro e w2 ⟨rfl, rfl⟩
  rw [HEZ.out]
  go_wp2
  go_quiet (fail)
  go_wp2
  go_ret
  exact ⟨rfl, (Ext.refl _).drewN _⟩

theorem callDerived1 (args : Array Value) (w : World) : (callFunc 56 args).run Tryz.prog w = .ok (.enter 56 args) w :=
  callFunc_enter Tryz.func56 (by kernel_rfl) rfl args w

set_option maxRecDepth 100000 in
set_option maxHeartbeats 2000000 in
theorem derivedRack_any (L S : List (List Int)) (v y : Value) (w : World) (hv : Rows w v L) (hy : Rows w y S) (hO : SolOk L S) (h1 : permRowsB L = true) :
    Calls Tryz.prog 29 #[.agg #[v, y]] w fun e w' => ∃ b c, e = .returned (.agg #[.slice (some ⟨b, 0, none⟩) L.length c]) ∧ Rows w' (.slice (some ⟨b, 0, none⟩) L.length c) (mkT L.length (derF L S)) ∧ Ext w w' := by
  obtain ⟨-, b, o, c, rfl, -⟩ := id hv
  obtain ⟨-, b2, o2, c2, rfl, -⟩ := id hy
  have hl12 := hO.l.2.1
  have hX : Ext w ((w.alloc (.cells #[.slice (some ⟨b, o, none⟩) L.length c, .slice (some ⟨b2, o2, none⟩) S.length c2] 29)).alloc (.cells #[.slice none 0 0] 37)) := ((Ext.refl _).alloc _).alloc _
  have k0 : ((w.alloc (.cells #[.slice (some ⟨b, o, none⟩) L.length c, .slice (some ⟨b2, o2, none⟩) S.length c2] 29)).alloc (.cells #[.slice none 0 0] 37)).cell? ⟨w.heap.size, 0, none⟩ = some (.slice (some ⟨b, o, none⟩) L.length c) := by simp [go_sem]
  have k1 : ((w.alloc (.cells #[.slice (some ⟨b, o, none⟩) L.length c, .slice (some ⟨b2, o2, none⟩) S.length c2] 29)).alloc (.cells #[.slice none 0 0] 37)).cell? ⟨w.heap.size, 1, none⟩ = some (.slice (some ⟨b2, o2, none⟩) S.length c2) := by simp [go_sem]
  have r0 : ((w.alloc (.cells #[.slice (some ⟨b, o, none⟩) L.length c, .slice (some ⟨b2, o2, none⟩) S.length c2] 29)).alloc (.cells #[.slice none 0 0] 37)).cell? ⟨w.heap.size + 1, 0, none⟩ = some (.slice none 0 0) := by simp [go_sem]
  have q0 : ((w.alloc (.cells #[.slice (some ⟨b, o, none⟩) L.length c, .slice (some ⟨b2, o2, none⟩) S.length c2] 29)).alloc (.cells #[.slice none 0 0] 37)).frozen? ⟨w.heap.size + 1, 0, none⟩ = false := by simp [go_sem]
  have zA : w.heap.size + 2 ≤ ((w.alloc (.cells #[.slice (some ⟨b, o, none⟩) L.length c, .slice (some ⟨b2, o2, none⟩) S.length c2] 29)).alloc (.cells #[.slice none 0 0] 37)).heap.size := by simp
  have HLT := Lib.hid (length_mkT L.length (derF L S))
  have HYY := Lib.hid hy
  go_enter Tryz.func29, Tryz.ntmps29
  go_wp2_with fail
  generalize ((w.alloc (.cells #[.slice (some ⟨b, o, none⟩) L.length c, .slice (some ⟨b2, o2, none⟩) S.length c2] 29)).alloc (.cells #[.slice none 0 0] 37)) = A at *
  refine (tableBy_any L.length (derF L S) 56 #[.pointer (some ⟨w.heap.size, 0, none⟩)] _ (by omega) callDerived1 (fun w1 x y h hx hy => by
    rw [app21]
    exact derivedRack1_any L S _ _ x y w.heap.size w1 (h.cell k0) (h.cell k1) (hv.ext (hX.trans h)) (HYY.out.ext (hX.trans h)) hO h1 hx hy)).mono ?_
  rintro e w1 ⟨b1, c1, rfl, ho, hx1⟩
  rw [HLT.out]
  have f1 := hx1.cell r0
  have f2 := hx1.free q0 (by simp only []; omega)
  have zz := hx1.size
  have hT : TableOk (mkT L.length (derF L S)) := by
    refine table_mk hO.l.1 hl12 fun x hx y hy => ?_
    obtain ⟨z, hz, ez⟩ := ix_found (row_iso hO.l h1 hy) hx
    have h2 := hO.sn hy hz
    have h3 := hO.l.bd hx (y := mulN S y z) h2.2
    rw [← derF_def, ez, Int.toNat_natCast]
    unfold mulN at h3
    omega
  have hrow := own_rows (ho.setOther (a := ⟨w.heap.size + 1, 0, none⟩) (.inl (by simp only []; omega)) (.slice (some ⟨b1, 0, none⟩) L.length c1)) hT c1
  rw [HLT.out] at hrow
  go_wp2
  exact bodyPost_ret (v := .agg #[.slice (some ⟨b1, 0, none⟩) L.length c1]) (by simp [results, Tryz.results29, go_sem, f1]) rfl ⟨b1, c1, rfl, hrow, (hX.trans hx1).setNew (by simp only []; omega) _⟩

set_option maxRecDepth 100000 in
set_option maxHeartbeats 2000000 in
theorem DerivedRack_ok (L S : List (List Int)) (v y : Value) (w : World) (hv : Rows w v L) (hy : Rows w y S) (hO : SolOk L S) (h1 : permRowsB L = true) (h2 : permRowsB (turnT S) = true) :
    Calls Tryz.prog 12 #[.agg #[v, y]] w (RetGN (mkT L.length (derF L S)) L.length w) := by
  obtain ⟨-, b, o, c, rfl, -⟩ := id hv
  obtain ⟨-, b2, o2, c2, rfl, -⟩ := id hy
  have hX : Ext w ((w.alloc (.cells #[.slice (some ⟨b, o, none⟩) L.length c, .slice (some ⟨b2, o2, none⟩) S.length c2] 29)).alloc (.cells #[.slice none 0 0] 37)) := ((Ext.refl _).alloc _).alloc _
  have k0 : ((w.alloc (.cells #[.slice (some ⟨b, o, none⟩) L.length c, .slice (some ⟨b2, o2, none⟩) S.length c2] 29)).alloc (.cells #[.slice none 0 0] 37)).cell? ⟨w.heap.size, 0, none⟩ = some (.slice (some ⟨b, o, none⟩) L.length c) := by simp [go_sem]
  have k1 : ((w.alloc (.cells #[.slice (some ⟨b, o, none⟩) L.length c, .slice (some ⟨b2, o2, none⟩) S.length c2] 29)).alloc (.cells #[.slice none 0 0] 37)).cell? ⟨w.heap.size, 1, none⟩ = some (.slice (some ⟨b2, o2, none⟩) S.length c2) := by simp [go_sem]
  have r0 : ((w.alloc (.cells #[.slice (some ⟨b, o, none⟩) L.length c, .slice (some ⟨b2, o2, none⟩) S.length c2] 29)).alloc (.cells #[.slice none 0 0] 37)).cell? ⟨w.heap.size + 1, 0, none⟩ = some (.slice none 0 0) := by simp [go_sem]
  have q0 : ((w.alloc (.cells #[.slice (some ⟨b, o, none⟩) L.length c, .slice (some ⟨b2, o2, none⟩) S.length c2] 29)).alloc (.cells #[.slice none 0 0] 37)).frozen? ⟨w.heap.size + 1, 0, none⟩ = false := by simp [go_sem]
  have zA : w.heap.size + 2 ≤ ((w.alloc (.cells #[.slice (some ⟨b, o, none⟩) L.length c, .slice (some ⟨b2, o2, none⟩) S.length c2] 29)).alloc (.cells #[.slice none 0 0] 37)).heap.size := by simp
  have HV := Lib.hid hv
  have HY := Lib.hid hy
  clear hv hy
  go_enter Tryz.func12, Tryz.ntmps12
  go_wp2_with fail
  generalize ((w.alloc (.cells #[.slice (some ⟨b, o, none⟩) L.length c, .slice (some ⟨b2, o2, none⟩) S.length c2] 29)).alloc (.cells #[.slice none 0 0] 37)) = A at *
  refine (IsSolution_ok L S _ _ _ (HV.out.ext hX) (HY.out.ext hX) hO).mono ?_
  rintro e w2 ⟨rfl, hx⟩
  replace k0 := hx.cell k0
  replace k1 := hx.cell k1
  replace r0 := hx.cell r0
  replace q0 := hx.free q0 (by simp only []; omega)
  replace zA := Nat.le_trans zA hx.size
  replace hX := hX.trans hx
  clear hx
  go_wp2_with fail
  refine (isNondegenerate_ok L S _ _ _ (HV.out.ext hX) (HY.out.ext hX) hO.s h1 h2).mono ?_
  rintro e w3 ⟨rfl, hx⟩
  replace k0 := hx.cell k0
  replace k1 := hx.cell k1
  replace r0 := hx.cell r0
  replace q0 := hx.free q0 (by simp only []; omega)
  replace zA := Nat.le_trans zA hx.size
  replace hX := hX.trans hx
  clear hx
  go_wp2_with fail
  refine (derivedRack_any L S _ _ _ (HV.out.ext hX) (HY.out.ext hX) hO h1).mono ?_
  rintro e w4 ⟨b1, c1, rfl, hr, hx⟩
  replace r0 := hx.cell r0
  replace q0 := hx.free q0 (by simp only []; omega)
  replace hX := hX.trans hx
  clear hx
  go_wp2
  exact bodyPost_ret (v := .tuple #[.agg #[.slice (some ⟨b1, 0, none⟩) L.length c1], .int .i64 0]) (by simp [results, Tryz.results12, go_sem, r0]) rfl ⟨b1, c1, rfl, hr.setNil r0 _, hX.setNew (by simp only []; omega) _⟩
end Go.Proofs.YtjbloenjphpngaaGreat
