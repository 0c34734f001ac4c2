/-
  The law FnBraceExamples, walked.
-/
import Derived.Test.YtjbloenjphpngaaProg
import Derived.Deep.DeepCutAuto
import Derived.Deep.RegionWith
import Derived.BigQuiet
import Derived.Test.YtjbloenjphpngaaJx0
import Derived.Test.YtjbloenjphpngaaJx1
import Derived.Test.YtjbloenjphpngaaJx5
import Derived.Test.YtjbloenjphpngaaJx14
import Derived.Test.YtjbloenjphpngaaJx8
import Derived.Test.YtjbloenjphpngaaJx9
import Derived.Test.YtjbloenjphpngaaJx2
import Derived.Test.YtjbloenjphpngaaJx27
import Derived.Test.YtjbloenjphpngaaJx53
import Derived.Test.YtjbloenjphpngaaJx10
import Derived.Test.YtjbloenjphpngaaJx6
import Derived.Test.YtjbloenjphpngaaJx12
import Derived.Test.YtjbloenjphpngaaJx15
import Derived.Test.YtjbloenjphpngaaJx17
import Derived.Test.YtjbloenjphpngaaJx42
import Derived.Test.YtjbloenjphpngaaJx16
import Derived.Test.YtjbloenjphpngaaJx37
import Derived.Test.YtjbloenjphpngaaJx40
import Derived.Test.YtjbloenjphpngaaJx46
import Derived.Test.YtjbloenjphpngaaJx48
import Derived.Test.YtjbloenjphpngaaJx50
import Derived.Test.YtjbloenjphpngaaJx45
namespace Go.Proofs.Ytjbloenjphpngaa
set_option linter.unusedVariables false
set_option linter.unusedSimpArgs false
open Go.RowKit
attribute [local go_sem ↓] Go.wp_at_zero Go.wp_at_succ
open Go.Deep

theorem OwnB.smallB {lo hi : Nat} {w : World} {v y : Value} {t u : List (List Int)} (h : OwnB lo hi w v y t u) : Small t ∧ Small u := by
  obtain ⟨a, b, c, d, -, -, -, -, -, h1, h2⟩ := h
  exact ⟨h1.1, h2.1⟩

theorem triv_all {t : List (List Int)} (hG : GroupOk t) : braceB t t = true ∧ noFaultB t t = true ∧ eqTB t t = true := ⟨brace_by hG hG rfl (triv_fault hG), noFault_yes (triv_fault hG), eqTB_yes rfl⟩

theorem turned_all {t : List (List Int)} (hG : GroupOk t) : braceB t (turnT t) = true ∧ noFaultB (turnT t) t = true := ⟨brace_by hG (opp_group hG) (length_turnT t).symm (turned_fault hG), noFault_yes (turned_back hG)⟩

theorem ring_all3 {n k : Nat} (h1 : 1 ≤ n) (h2 : n ≤ 12) (hk : k < n) (hg : goodR n k = true) : braceB (mkT n (cycF n)) (mkT n (ringF n k)) = true ∧ abelB (mkT n (cycF n)) = true ∧ twoSB (mkT n (cycF n)) (mkT n (ringF n k)) = true := ⟨by rw [brace_ring h1 h2 hk]; exact hg, ring_abel h1 h2, ring_two h1 h2 hk hg⟩

set_option maxRecDepth 100000 in
set_option maxHeartbeats 8000000 in
theorem lawBraceExamples (w : World) (bs : List Int) (v : Value) (hv : BytesR w v bs) :
    Calls Try.prog 4 #[v] w fun e w' => e = .returned (.bool true) ∧ Ext w w' := by
  obtain ⟨va, vc, rfl, -⟩ := id hv
  go_enter Try.func4, Try.ntmps4
  go_wp2_with fail
  refine (big_any va bs.length vc w).mono ?_
  rintro e w1 ⟨rfl, rfl⟩
  by_cases hbig : 4096 < (bs.length : Int)
  case pos =>
    go_wp2
    go_ret
    exact ⟨rfl, Ext.refl _⟩
  case neg =>
    have HV := Lib.hid hv
    have HB := Lib.hid hbig
    go_wp2_with fail
    refine (DrawTurnedBrace_any bs _ _ HV.out (by have := HB.out; omega)).mono ?_
    rintro e w1 ⟨v1, T, rfl, hr, hl, hX⟩
    have HV := Lib.hid (HV.out.ext hX)
    have HR := Lib.hid hr
    obtain ⟨b, o, c, rfl⟩ := hr.shape
    clear hbig hv hr
    have hx := ext_box w1 (.slice (some ⟨b, o, none⟩) T.length c) 38
    have bg := cell_new w1 (.slice (some ⟨b, o, none⟩) T.length c) 38
    obtain ⟨A, hA⟩ : ∃ A, A = ifG T T [] := ⟨_, rfl⟩
    obtain ⟨B, hB⟩ : ∃ B, B = ifG T (turnT T) [] := ⟨_, rfl⟩
    obtain ⟨C, hC⟩ : ∃ C, C = codeG T := ⟨_, rfl⟩
    have HA := Lib.hid hA
    have HBB := Lib.hid hB
    have HC := Lib.hid hC
    have T1 := Lib.hid (fun v w hv => TurnedBrace_impl T v w hv)
    have T2 := Lib.hid (fun v w hv => TurnedBrace_spec T v w hv)
    have T3 := Lib.hid (fun v w hv => TrivialBrace_impl T v w hv)
    rw [← hA, ← hB, ← hC] at T1 T2
    rw [← hA, ← hC] at T3
    clear hA hB hC
    replace hX := hX.trans hx
    have HV := Lib.hid (HV.out.ext hx)
    have HR := Lib.hid (HR.out.ext hx)
    clear hx
    go_wp2_with fail
    generalize (w1.alloc (.cells #[.slice (some ⟨b, o, none⟩) T.length c] 38)) = w2 at *
    refine (T1.out _ _ HR.out).mono ?_
    rintro e w3 ⟨p1, p2, rfl, ph, hx⟩
    replace hX := hX.trans hx
    replace bg := hx.cell bg
    have HV := Lib.hid (HV.out.ext hx)
    have HR := Lib.hid (HR.out.ext hx)
    have Hp1 := Lib.hid (ph.toR.1)
    have Hp2 := Lib.hid (ph.toR.2)
    have HpS := Lib.hid ph.smallB
    clear hx ph
    obtain ⟨pa, pc, rfl, -⟩ := id Hp1.out
    obtain ⟨pb, pd, rfl, -⟩ := id Hp2.out
    have hx : Ext w3 (w3.alloc (.cells #[.slice pa (A).length pc, .slice pb (B).length pd] 26)) := (Ext.refl _).alloc _
    have pk0 := cell_new2a w3 (.slice pa (A).length pc) (.slice pb (B).length pd) 26
    have pk1 := cell_new2b w3 (.slice pa (A).length pc) (.slice pb (B).length pd) 26
    replace hX := hX.trans hx
    replace bg := hx.cell bg
    have HV := Lib.hid (HV.out.ext hx)
    have HR := Lib.hid (HR.out.ext hx)
    have Hp1 := Lib.hid (Hp1.out.ext hx)
    have Hp2 := Lib.hid (Hp2.out.ext hx)
    clear hx
    go_wp2_with fail
    generalize (w3.alloc (.cells #[.slice pa (A).length pc, .slice pb (B).length pd] 26)) = w4 at *
    refine (T2.out _ _ HR.out).mono ?_
    rintro e w5 ⟨q1, q2, rfl, qh, hx⟩
    replace hX := hX.trans hx
    replace bg := hx.cell bg
    replace pk0 := hx.cell pk0
    replace pk1 := hx.cell pk1
    have HV := Lib.hid (HV.out.ext hx)
    have HR := Lib.hid (HR.out.ext hx)
    have Hp1 := Lib.hid (Hp1.out.ext hx)
    have Hp2 := Lib.hid (Hp2.out.ext hx)
    have Hq1 := Lib.hid (qh.1)
    have Hq2 := Lib.hid (qh.2)
    clear hx qh
    obtain ⟨qa, qc, rfl, -⟩ := id Hq1.out
    obtain ⟨qb, qd, rfl, -⟩ := id Hq2.out
    have hx : Ext w5 (w5.alloc (.cells #[.slice qa (A).length qc, .slice qb (B).length qd] 26)) := (Ext.refl _).alloc _
    have qk0 := cell_new2a w5 (.slice qa (A).length qc) (.slice qb (B).length qd) 26
    have qk1 := cell_new2b w5 (.slice qa (A).length qc) (.slice qb (B).length qd) 26
    have hX := hX.trans hx
    have bg := hx.cell bg
    have pk0 := hx.cell pk0
    have pk1 := hx.cell pk1
    have HV := Lib.hid (HV.out.ext hx)
    have HR := Lib.hid (HR.out.ext hx)
    have Hp1 := Lib.hid (Hp1.out.ext hx)
    have Hp2 := Lib.hid (Hp2.out.ext hx)
    have Hq1 := Lib.hid (Hq1.out.ext hx)
    have Hq2 := Lib.hid (Hq2.out.ext hx)
    go_wp2_with (go_at_call 18; refine (brace9_same A B _ _ _ _ _ Hp1.out Hp2.out Hq1.out Hq2.out HpS.out.1 HpS.out.2).mono ?_; rintro e w6 ⟨rfl, hz⟩; replace bg := hz.cell bg; replace pk0 := hz.cell pk0; replace pk1 := hz.cell pk1)
    clear hx qk0 qk1 Hq1 Hq2
    replace hX := hX.trans hz
    have HV := Lib.hid (HV.out.ext hz)
    have HR := Lib.hid (HR.out.ext hz)
    have Hp1 := Lib.hid (Hp1.out.ext hz)
    have Hp2 := Lib.hid (Hp2.out.ext hz)
    clear hz
    refine (T3.out _ _ HR.out).mono ?_
    rintro e w7 ⟨t1, t2, rfl, th, hx⟩
    replace hX := hX.trans hx
    replace bg := hx.cell bg
    replace pk0 := hx.cell pk0
    replace pk1 := hx.cell pk1
    have HV := Lib.hid (HV.out.ext hx)
    have HR := Lib.hid (HR.out.ext hx)
    have Hp1 := Lib.hid (Hp1.out.ext hx)
    have Hp2 := Lib.hid (Hp2.out.ext hx)
    have Ht1 := Lib.hid (th.toR.1)
    have Ht2 := Lib.hid (th.toR.2)
    have HtS := Lib.hid th.smallB
    clear hx th
    obtain ⟨ta, tc, rfl, -⟩ := id Ht1.out
    obtain ⟨tb, td, rfl, -⟩ := id Ht2.out
    have hx : Ext w7 (w7.alloc (.cells #[.slice ta (A).length tc, .slice tb (A).length td] 26)) := (Ext.refl _).alloc _
    have tk0 := cell_new2a w7 (.slice ta (A).length tc) (.slice tb (A).length td) 26
    have tk1 := cell_new2b w7 (.slice ta (A).length tc) (.slice tb (A).length td) 26
    replace hX := hX.trans hx
    replace bg := hx.cell bg
    replace pk0 := hx.cell pk0
    replace pk1 := hx.cell pk1
    have HV := Lib.hid (HV.out.ext hx)
    have HR := Lib.hid (HR.out.ext hx)
    have Hp1 := Lib.hid (Hp1.out.ext hx)
    have Hp2 := Lib.hid (Hp2.out.ext hx)
    have Ht1 := Lib.hid (Ht1.out.ext hx)
    have Ht2 := Lib.hid (Ht2.out.ext hx)
    clear hx
    go_upto_if 62 with fail
    generalize (w7.alloc (.cells #[.slice ta (A).length tc, .slice tb (A).length td] 26)) = w8 at *
    go_cut [] (fun wx => Ext w8 wx)
    case first =>
      cases hg : groupB T with
      | false =>
        have hC1 : C = 1 := by rw [HC.out]; exact codeG_no hg
        subst hC1
        go_wp2
        go_meet
        case rel => exact Ext.refl _
      | true =>
        have hG := groupB_iff.1 hg
        have hC0 : C = 0 := by rw [HC.out]; exact codeG_yes hg
        have hA0 : A = T := by rw [HA.out]; exact ifG_yes hg
        have hB0 : B = turnT T := by rw [HBB.out]; exact ifG_yes hg
        subst hC0
        have HTU := Lib.hid (turn_ok hG.1)
        have HP1 := Lib.hid (show Rows w8 (.slice pa A.length pc) T from by have := Hp1.out; rw [hA0] at this ⊢; exact rowsR_ok this hG.1)
        have HP2 := Lib.hid (show Rows w8 (.slice pb B.length pd) (turnT T) from by have := Hp2.out; rw [hB0] at this ⊢; exact rowsR_ok this HTU.out)
        have HT1 := Lib.hid (show Rows w8 (.slice ta A.length tc) T from by have := Ht1.out; rw [hA0] at this ⊢; exact rowsR_ok this hG.1)
        have HT2 := Lib.hid (show Rows w8 (.slice tb A.length td) T from by have := Ht2.out; rw [hA0] at this ⊢; exact rowsR_ok this hG.1)
        have V1 := triv_all hG
        have V2 := turned_all hG
        have c1 := Lib.hid (fun v y w hv hy => IsBiSkewBrace_impl T (turnT T) v y w hv hy)
        have c2 := Lib.hid (fun v y w hv hy => IsBiSkewBrace_impl T T v y w hv hy)
        have c3 := Lib.hid (fun v y w hv hy => IsTrivialBrace_impl T T v y w hv hy)
        rw [ifB_yes V2.1, codeB_yes V2.1, V2.2] at c1
        rw [ifB_yes V1.1, codeB_yes V1.1, V1.2.1] at c2
        rw [ifB_yes V1.1, codeB_yes V1.1, V1.2.2] at c3
        have V11 := V1.1
        have V21 := V2.1
        have hY : Ext w8 w8 := Ext.refl _
        clear hA0 hB0 V1 V2 bg
        go_wp2_with fail
        refine (c1.out _ _ _ HP1.out HP2.out).mono ?_
        rintro e w9 ⟨rfl, hx⟩
        replace hY := hY.trans hx
        replace pk0 := hx.cell pk0
        replace pk1 := hx.cell pk1
        replace tk0 := hx.cell tk0
        replace tk1 := hx.cell tk1
        clear hx
        go_wp2_with fail
        refine (c2.out _ _ _ (HT1.out.ext hY) (HT2.out.ext hY)).mono ?_
        rintro e w10 ⟨rfl, hx⟩
        replace hY := hY.trans hx
        replace pk0 := hx.cell pk0
        replace pk1 := hx.cell pk1
        replace tk0 := hx.cell tk0
        replace tk1 := hx.cell tk1
        clear hx
        go_wp2_with fail
        refine (c3.out _ _ _ (HT1.out.ext hY) (HT2.out.ext hY)).mono ?_
        rintro e w11 ⟨rfl, hx⟩
        replace hY := hY.trans hx
        replace pk0 := hx.cell pk0
        replace pk1 := hx.cell pk1
        replace tk0 := hx.cell tk0
        replace tk1 := hx.cell tk1
        clear hx
        go_wp2_with (first
          | (go_at_call 10; refine (IsBrace_impl T T _ _ _ (HT1.out.ext (hY.trans hzA)) (HT2.out.ext (hY.trans hzA))).mono ?_; rintro e wB ⟨rfl, hzB⟩; rw [V11])
          | (go_at_call 10; refine (IsBrace_impl T (turnT T) _ _ _ (HP1.out.ext hY) (HP2.out.ext hY)).mono ?_; rintro e wA ⟨rfl, hzA⟩; rw [V21]; have tk2 := hzA.cell tk0; have tk3 := hzA.cell tk1))
        go_meet
        case rel => exact (hY.trans hzA).trans hzB
    case rest =>
      replace hX := hX.trans hcut
      have HV := Lib.hid (HV.out.ext hcut)
      clear hcut bg pk0 pk1 tk0 tk1 Hp1 Hp2 HpS Ht1 Ht2 HtS T1 T2 T3 HA HBB HC HR
      go_wp2_with fail
      refine (DrawRingBrace_any bs _ _ HV.out (by have := HB.out; omega)).mono ?_
      rintro e w12 ⟨x, y, rfl, -, -, -, -, hx⟩
      replace hX := hX.trans hx
      have HV := Lib.hid (HV.out.ext hx)
      clear hx
      obtain ⟨R, hR⟩ : ∃ R, R = ringT x y := ⟨_, rfl⟩
      obtain ⟨Q, hQ⟩ : ∃ Q, Q = ringU x y := ⟨_, rfl⟩
      obtain ⟨C2, hC⟩ : ∃ C2, C2 = ringC x y := ⟨_, rfl⟩
      have HR := Lib.hid hR
      have HQ := Lib.hid hQ
      have HC := Lib.hid hC
      have T1 := Lib.hid (fun w => RingBrace_impl x y w)
      have T2 := Lib.hid (fun w => RingBrace_spec x y w)
      rw [← hR, ← hQ, ← hC] at T1 T2
      clear hR hQ hC
      go_wp2_with fail
      refine (T1.out _).mono ?_
      rintro e w13 ⟨p1, p2, rfl, ph, hx⟩
      replace hX := hX.trans hx
      have HV := Lib.hid (HV.out.ext hx)
      have Hp1 := Lib.hid (ph.toR.1)
      have Hp2 := Lib.hid (ph.toR.2)
      have HpS := Lib.hid ph.smallB
      clear hx ph
      obtain ⟨pa, pc, rfl, -⟩ := id Hp1.out
      obtain ⟨pb, pd, rfl, -⟩ := id Hp2.out
      have hx : Ext w13 (w13.alloc (.cells #[.slice pa (R).length pc, .slice pb (Q).length pd] 26)) := (Ext.refl _).alloc _
      have pk0 := cell_new2a w13 (.slice pa (R).length pc) (.slice pb (Q).length pd) 26
      have pk1 := cell_new2b w13 (.slice pa (R).length pc) (.slice pb (Q).length pd) 26
      replace hX := hX.trans hx
      have HV := Lib.hid (HV.out.ext hx)
      have Hp1 := Lib.hid (Hp1.out.ext hx)
      have Hp2 := Lib.hid (Hp2.out.ext hx)
      clear hx
      go_wp2_with fail
      generalize (w13.alloc (.cells #[.slice pa (R).length pc, .slice pb (Q).length pd] 26)) = w14 at *
      refine (T2.out _).mono ?_
      rintro e w15 ⟨q1, q2, rfl, qh, hx⟩
      replace hX := hX.trans hx
      replace pk0 := hx.cell pk0
      replace pk1 := hx.cell pk1
      have HV := Lib.hid (HV.out.ext hx)
      have Hp1 := Lib.hid (Hp1.out.ext hx)
      have Hp2 := Lib.hid (Hp2.out.ext hx)
      have Hq1 := Lib.hid (qh.1)
      have Hq2 := Lib.hid (qh.2)
      clear hx qh
      obtain ⟨qa, qc, rfl, -⟩ := id Hq1.out
      obtain ⟨qb, qd, rfl, -⟩ := id Hq2.out
      have hx : Ext w15 (w15.alloc (.cells #[.slice qa (R).length qc, .slice qb (Q).length qd] 26)) := (Ext.refl _).alloc _
      have qk0 := cell_new2a w15 (.slice qa (R).length qc) (.slice qb (Q).length qd) 26
      have qk1 := cell_new2b w15 (.slice qa (R).length qc) (.slice qb (Q).length qd) 26
      have hX := hX.trans hx
      have pk0 := hx.cell pk0
      have pk1 := hx.cell pk1
      have HV := Lib.hid (HV.out.ext hx)
      have Hp1 := Lib.hid (Hp1.out.ext hx)
      have Hp2 := Lib.hid (Hp2.out.ext hx)
      have Hq1 := Lib.hid (Hq1.out.ext hx)
      have Hq2 := Lib.hid (Hq2.out.ext hx)
      go_upto_region 20 with fail
      generalize (w15.alloc (.cells #[.slice qa (R).length qc, .slice qb (Q).length qd] 26)) = w16 at *
      go_cut [142] (fun v wx => v = .bool false ∧ Ext w16 wx)
      case first =>
        go_wp2_with (go_at_call 18; refine (brace9_same R Q _ _ _ _ _ Hp1.out Hp2.out Hq1.out Hq2.out HpS.out.1 HpS.out.2).mono ?_; rintro e w17 ⟨rfl, hz⟩)
        go_meet
        case rel => exact ⟨rfl, hz⟩
      obtain ⟨rfl, hz⟩ := hcut
      clear hx qk0 qk1 Hq1 Hq2
      replace hX := hX.trans hz
      replace pk0 := hz.cell pk0
      replace pk1 := hz.cell pk1
      have HV := Lib.hid (HV.out.ext hz)
      have Hp1 := Lib.hid (Hp1.out.ext hz)
      have Hp2 := Lib.hid (Hp2.out.ext hz)
      clear hz
      obtain ⟨w18, rfl⟩ : ∃ z : World, z = wc := ⟨_, rfl⟩
      go_upto_if 144 with fail
      go_cut [] (fun wx => Ext w18 wx)
      case first =>
        by_cases h0 : C2 = 0
        case neg =>
          have h0b : (C2 == 0) = false := by simpa using h0
          go_wp2
          go_meet
          case rel => exact Ext.refl _
        case pos =>
          obtain ⟨n, k, h1, h2, hk, hg, e1, e2⟩ := ring_0 (a := x) (b := y) (by rw [← HC.out]; exact h0)
          rw [← HR.out] at e1
          rw [← HQ.out] at e2
          subst h0
          have V := ring_all3 h1 h2 hk hg
          rw [← e1, ← e2] at V
          have HRO := Lib.hid (show TableOk R by rw [e1]; exact (group_cyc h1 h2).1)
          have HQO := Lib.hid (show TableOk Q by rw [e2]; exact ring_table h1 h2 k)
          have HP1 := Lib.hid (rowsR_ok Hp1.out HRO.out)
          have HP2 := Lib.hid (rowsR_ok Hp2.out HQO.out)
          have c1 := Lib.hid (fun v y w hv hy => IsClassicalBrace_impl R Q v y w hv hy)
          have c2 := Lib.hid (fun v y w hv hy => IsTwoSidedBrace_impl R Q v y w hv hy)
          rw [ifB_yes V.1, codeB_yes V.1, V.2.1] at c1
          rw [ifB_yes V.1, codeB_yes V.1, V.2.2] at c2
          have V1 := V.1
          have hY : Ext w18 w18 := Ext.refl _
          clear e1 e2 V hg hk h1 h2
          go_wp2_with fail
          refine (c1.out _ _ _ HP1.out HP2.out).mono ?_
          rintro e w19 ⟨rfl, hx⟩
          replace hY := hY.trans hx
          replace pk0 := hx.cell pk0
          replace pk1 := hx.cell pk1
          clear hx
          go_wp2_with fail
          refine (c2.out _ _ _ (HP1.out.ext hY) (HP2.out.ext hY)).mono ?_
          rintro e w20 ⟨rfl, hx⟩
          replace hY := hY.trans hx
          replace pk0 := hx.cell pk0
          replace pk1 := hx.cell pk1
          clear hx
          go_wp2_with (go_at_call 10; refine (IsBrace_impl R Q _ _ _ (HP1.out.ext hY) (HP2.out.ext hY)).mono ?_; rintro e wA ⟨rfl, hzA⟩; rw [V1])
          go_meet
          case rel => exact hY.trans hzA
      case rest =>
        replace hX := hX.trans hcut
        have HV := Lib.hid (HV.out.ext hcut)
        clear hcut pk0 pk1 Hp1 Hp2 HpS T1 T2 HR HQ HC
        go_wp2_with fail
        refine (DrawOppositeBrace_any bs _ _ HV.out (by have := HB.out; omega)).mono ?_
        rintro e w21 ⟨v2, y2, T2, U, rfl, hr, hu, l0, l1, l2, hx⟩
        replace hX := hX.trans hx
        have HR := Lib.hid hr
        have HU := Lib.hid hu
        obtain ⟨b2, o2, c2, rfl⟩ := hr.shape
        obtain ⟨yb, yo, yc, rfl⟩ := hu.shape
        clear hx hr hu HV
        have hx : Ext w21 (w21.alloc (.cells #[.slice (some ⟨b2, o2, none⟩) T2.length c2, .slice (some ⟨yb, yo, none⟩) U.length yc] 26)) := (Ext.refl _).alloc _
        have gk0 := cell_new2a w21 (.slice (some ⟨b2, o2, none⟩) T2.length c2) (.slice (some ⟨yb, yo, none⟩) U.length yc) 26
        have gk1 := cell_new2b w21 (.slice (some ⟨b2, o2, none⟩) T2.length c2) (.slice (some ⟨yb, yo, none⟩) U.length yc) 26
        obtain ⟨A, hA⟩ : ∃ A, A = ifB T2 U (turnT T2) [] := ⟨_, rfl⟩
        obtain ⟨B, hB⟩ : ∃ B, B = ifB T2 U U [] := ⟨_, rfl⟩
        obtain ⟨C, hC⟩ : ∃ C, C = codeB T2 U := ⟨_, rfl⟩
        have HA := Lib.hid hA
        have HBB := Lib.hid hB
        have HC := Lib.hid hC
        have T1 := Lib.hid (fun v y w hv hy => OppositeBrace_impl T2 U v y w hv hy)
        have T3 := Lib.hid (fun v y w hv hy => OppositeBrace_spec T2 U v y w hv hy)
        rw [← hA, ← hB, ← hC] at T1 T3
        clear hA hB hC
        replace hX := hX.trans hx
        have HR := Lib.hid (HR.out.ext hx)
        have HU := Lib.hid (HU.out.ext hx)
        clear hx
        go_wp2_with fail
        generalize (w21.alloc (.cells #[.slice (some ⟨b2, o2, none⟩) T2.length c2, .slice (some ⟨yb, yo, none⟩) U.length yc] 26)) = w22 at *
        refine (T1.out _ _ _ HR.out HU.out).mono ?_
        rintro e w23 ⟨p1, p2, rfl, ph, hx⟩
        replace hX := hX.trans hx
        replace gk0 := hx.cell gk0
        replace gk1 := hx.cell gk1
        have HR := Lib.hid (HR.out.ext hx)
        have HU := Lib.hid (HU.out.ext hx)
        have Hp1 := Lib.hid (ph.toR.1)
        have Hp2 := Lib.hid (ph.toR.2)
        have HpS := Lib.hid ph.smallB
        clear hx ph
        obtain ⟨pa, pc, rfl, -⟩ := id Hp1.out
        obtain ⟨pb, pd, rfl, -⟩ := id Hp2.out
        have hx : Ext w23 (w23.alloc (.cells #[.slice pa (A).length pc, .slice pb (B).length pd] 26)) := (Ext.refl _).alloc _
        have pk0 := cell_new2a w23 (.slice pa (A).length pc) (.slice pb (B).length pd) 26
        have pk1 := cell_new2b w23 (.slice pa (A).length pc) (.slice pb (B).length pd) 26
        replace hX := hX.trans hx
        replace gk0 := hx.cell gk0
        replace gk1 := hx.cell gk1
        have HR := Lib.hid (HR.out.ext hx)
        have HU := Lib.hid (HU.out.ext hx)
        have Hp1 := Lib.hid (Hp1.out.ext hx)
        have Hp2 := Lib.hid (Hp2.out.ext hx)
        clear hx
        go_wp2_with fail
        generalize (w23.alloc (.cells #[.slice pa (A).length pc, .slice pb (B).length pd] 26)) = w24 at *
        refine (T3.out _ _ _ HR.out HU.out).mono ?_
        rintro e w25 ⟨q1, q2, rfl, qh, hx⟩
        replace hX := hX.trans hx
        replace gk0 := hx.cell gk0
        replace gk1 := hx.cell gk1
        replace pk0 := hx.cell pk0
        replace pk1 := hx.cell pk1
        have HR := Lib.hid (HR.out.ext hx)
        have HU := Lib.hid (HU.out.ext hx)
        have Hp1 := Lib.hid (Hp1.out.ext hx)
        have Hp2 := Lib.hid (Hp2.out.ext hx)
        have Hq1 := Lib.hid (qh.1)
        have Hq2 := Lib.hid (qh.2)
        clear hx qh
        obtain ⟨qa, qc, rfl, -⟩ := id Hq1.out
        obtain ⟨qb, qd, rfl, -⟩ := id Hq2.out
        have hx : Ext w25 (w25.alloc (.cells #[.slice qa (A).length qc, .slice qb (B).length qd] 26)) := (Ext.refl _).alloc _
        have qk0 := cell_new2a w25 (.slice qa (A).length qc) (.slice qb (B).length qd) 26
        have qk1 := cell_new2b w25 (.slice qa (A).length qc) (.slice qb (B).length qd) 26
        have hX := hX.trans hx
        have gk0 := hx.cell gk0
        have gk1 := hx.cell gk1
        have pk0 := hx.cell pk0
        have pk1 := hx.cell pk1
        have HR := Lib.hid (HR.out.ext hx)
        have HU := Lib.hid (HU.out.ext hx)
        have Hp1 := Lib.hid (Hp1.out.ext hx)
        have Hp2 := Lib.hid (Hp2.out.ext hx)
        have Hq1 := Lib.hid (Hq1.out.ext hx)
        have Hq2 := Lib.hid (Hq2.out.ext hx)
        go_upto_region 30 with fail
        generalize (w25.alloc (.cells #[.slice qa (A).length qc, .slice qb (B).length qd] 26)) = w26 at *
        go_cut [194] (fun v wx => v = .bool false ∧ Ext w26 wx)
        case first =>
          go_wp2_with (go_at_call 18; refine (brace9_same A B _ _ _ _ _ Hp1.out Hp2.out Hq1.out Hq2.out HpS.out.1 HpS.out.2).mono ?_; rintro e w27 ⟨rfl, hz⟩)
          go_meet
          case rel => exact ⟨rfl, hz⟩
        obtain ⟨rfl, hz⟩ := hcut
        clear hx qk0 qk1 Hq1 Hq2
        replace hX := hX.trans hz
        replace gk0 := hz.cell gk0
        replace gk1 := hz.cell gk1
        replace pk0 := hz.cell pk0
        replace pk1 := hz.cell pk1
        have HR := Lib.hid (HR.out.ext hz)
        have HU := Lib.hid (HU.out.ext hz)
        have Hp1 := Lib.hid (Hp1.out.ext hz)
        have Hp2 := Lib.hid (Hp2.out.ext hz)
        clear hz
        cases hb : braceB T2 U with
        | false =>
          have hC1 : C = 1 := by rw [HC.out]; exact codeB_no hb
          have hA1 : A = [] := by rw [HA.out]; exact ifB_no hb
          subst hC1
          subst hA1
          go_wp2
          go_ret
          exact ⟨rfl, hX⟩
        | true =>
          have hC1 : C = 0 := by rw [HC.out]; exact codeB_yes hb
          have hA1 : A = turnT T2 := by rw [HA.out]; exact ifB_yes hb
          have hB1 : B = U := by rw [HBB.out]; exact ifB_yes hb
          subst hC1
          have hok := braceB_ok hb
          have hb2 := opp_brace hb
          have HTU := Lib.hid (turn_ok hok.1.1)
          have HTT := Lib.hid (turn_twice hok.1.1)
          have HSS := Lib.hid (hok.1.1.small)
          have HSU := Lib.hid (hok.2.1.1.small)
          have HP1 := Lib.hid (show Rows wc (.slice pa A.length pc) (turnT T2) from by have := Hp1.out; rw [hA1] at this ⊢; exact rowsR_ok this HTU.out)
          have HP2 := Lib.hid (show Rows wc (.slice pb B.length pd) U from by have := Hp2.out; rw [hB1] at this ⊢; exact rowsR_ok this hok.2.1.1)
          have c1 := Lib.hid (fun v y w hv hy => OppositeBrace_impl (turnT T2) U v y w hv hy)
          rw [ifB_yes hb2, ifB_yes hb2, codeB_yes hb2, HTT.out] at c1
          clear hA1 hB1 hok
          go_wp2_with fail
          refine (c1.out _ _ _ HP1.out HP2.out).mono ?_
          rintro e w28 ⟨r1, r2, rfl, rh, hx⟩
          replace hX := hX.trans hx
          replace gk0 := hx.cell gk0
          replace gk1 := hx.cell gk1
          replace pk0 := hx.cell pk0
          replace pk1 := hx.cell pk1
          have HP1 := Lib.hid (HP1.out.ext hx)
          have HP2 := Lib.hid (HP2.out.ext hx)
          have HR := Lib.hid (HR.out.ext hx)
          have HU := Lib.hid (HU.out.ext hx)
          have Hr1 := Lib.hid (rh.toR.1)
          have Hr2 := Lib.hid (rh.toR.2)
          clear hx rh
          obtain ⟨ra, rc, rfl, -⟩ := id Hr1.out
          obtain ⟨rb, rd, rfl, -⟩ := id Hr2.out
          have hx : Ext w28 (w28.alloc (.cells #[.slice ra T2.length rc, .slice rb U.length rd] 26)) := (Ext.refl _).alloc _
          have rk0 := cell_new2a w28 (.slice ra T2.length rc) (.slice rb U.length rd) 26
          have rk1 := cell_new2b w28 (.slice ra T2.length rc) (.slice rb U.length rd) 26
          replace hX := hX.trans hx
          replace gk0 := hx.cell gk0
          replace gk1 := hx.cell gk1
          replace pk0 := hx.cell pk0
          replace pk1 := hx.cell pk1
          have HP1 := Lib.hid (HP1.out.ext hx)
          have HP2 := Lib.hid (HP2.out.ext hx)
          have HR := Lib.hid (HR.out.ext hx)
          have HU := Lib.hid (HU.out.ext hx)
          have Hr1 := Lib.hid (Hr1.out.ext hx)
          have Hr2 := Lib.hid (Hr2.out.ext hx)
          clear hx
          go_wp2_with (first
            | (go_at_call 18; refine (brace9_same T2 U _ _ _ _ _ (Hr1.out.ext hzA) (Hr2.out.ext hzA) (HR.out.toR.ext hzA) (HU.out.toR.ext hzA) HSS.out HSU.out).mono ?_; rintro e wB ⟨rfl, hzB⟩)
            | (go_at_call 10; refine (IsBrace_impl (turnT T2) U _ _ _ HP1.out HP2.out).mono ?_; rintro e wA ⟨rfl, hzA⟩; rw [hb2]; have gk2 := hzA.cell gk0; have gk3 := hzA.cell gk1; have rk2 := hzA.cell rk0; have rk3 := hzA.cell rk1))
          go_ret
          exact ⟨rfl, (hX.trans hzA).trans hzB⟩
end Go.Proofs.Ytjbloenjphpngaa
