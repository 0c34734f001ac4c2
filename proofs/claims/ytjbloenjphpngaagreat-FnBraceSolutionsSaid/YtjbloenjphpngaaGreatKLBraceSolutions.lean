/-
  The law FnBraceSolutions, walked.
-/
import Derived.Test.YtjbloenjphpngaaGreatProg
import Derived.Deep.DeepCutAuto
import Derived.Deep.RegionWith
import Derived.BigQuiet
import Derived.Test.YtjbloenjphpngaaGreatKx0
import Derived.Test.YtjbloenjphpngaaGreatKx1
import Derived.Test.YtjbloenjphpngaaGreatKx6
import Derived.Test.YtjbloenjphpngaaGreatKx7
import Derived.Test.YtjbloenjphpngaaGreatKx8
import Derived.Test.YtjbloenjphpngaaGreatKx9
import Derived.Test.YtjbloenjphpngaaGreatKx4
import Derived.Test.YtjbloenjphpngaaGreatKx3
import Derived.Test.YtjbloenjphpngaaGreatKx22
import Derived.Test.YtjbloenjphpngaaGreatKx31
import Derived.Test.YtjbloenjphpngaaGreatKx27
import Derived.Test.YtjbloenjphpngaaGreatKx29
import Derived.Test.YtjbloenjphpngaaGreatKx33
import Derived.Test.YtjbloenjphpngaaGreatKx25
import Derived.Test.YtjbloenjphpngaaGreatKx24
import Derived.Test.YtjbloenjphpngaaGreatKx28
import Derived.Test.YtjbloenjphpngaaGreatKx32
import Derived.Test.YtjbloenjphpngaaGreatKx2
namespace Go.Proofs.YtjbloenjphpngaaGreat
set_option linter.unusedVariables false
set_option linter.unusedSimpArgs false
open Go.RowKit
attribute [local go_sem ↓] Go.wp_at_zero Go.wp_at_succ
open Go.Deep

theorem OwnB.smallB {lo hi : Nat} {w : World} {v y : Value} {t u : List (List Int)} (h : OwnB lo hi w v y t u) : Small t ∧ Small u := by
  obtain ⟨a, b, c, d, -, -, -, -, -, h1, h2⟩ := h
  exact ⟨h1.1, h2.1⟩

set_option maxRecDepth 100000 in
set_option maxHeartbeats 8000000 in
theorem lawBraceSolutions (w : World) (bs : List Int) (v : Value) (hv : BytesR w v bs) :
    Calls Tryz.prog 3 #[v] w fun e w' => e = .returned (.bool true) ∧ Ext w w' := by
  obtain ⟨va, vc, rfl, -⟩ := id hv
  go_enter Tryz.func3, Tryz.ntmps3
  go_wp2_with fail
  refine (big_any va bs.length vc w).mono ?_
  rintro e w1 ⟨rfl, rfl⟩
  by_cases hbig : 4096 < (bs.length : Int)
  case pos =>
    go_wp2
    go_ret
    exact ⟨rfl, Ext.refl _⟩
  case neg =>
    have HV := Lib.hid hv
    have HB := Lib.hid hbig
    go_wp2_with fail
    refine (DrawBraceSolution_any bs _ _ HV.out (by have := HB.out; omega)).mono ?_
    rintro e w1 ⟨v2, y2, T, U, rfl, hr, hu, l0, l1, l2, hX⟩
    have HR := Lib.hid hr
    have HU := Lib.hid hu
    obtain ⟨b2, o2, c2, rfl⟩ := hr.shape
    obtain ⟨yb, yo, yc, rfl⟩ := hu.shape
    clear hbig hv hr hu HV HB
    have hx : Ext w1 (w1.alloc (.cells #[.slice (some ⟨b2, o2, none⟩) T.length c2, .slice (some ⟨yb, yo, none⟩) U.length yc] 26)) := (Ext.refl _).alloc _
    have gk0 := cell_new2a w1 (.slice (some ⟨b2, o2, none⟩) T.length c2) (.slice (some ⟨yb, yo, none⟩) U.length yc) 26
    have gk1 := cell_new2b w1 (.slice (some ⟨b2, o2, none⟩) T.length c2) (.slice (some ⟨yb, yo, none⟩) U.length yc) 26
    obtain ⟨A, hA⟩ : ∃ A, A = ifB T U (mkT T.length (lamF T U)) [] := ⟨_, rfl⟩
    obtain ⟨B, hB⟩ : ∃ B, B = ifB T U (mkT T.length (solF T U)) [] := ⟨_, rfl⟩
    obtain ⟨C, hC⟩ : ∃ C, C = codeB T U := ⟨_, rfl⟩
    have HA := Lib.hid hA
    have HBB := Lib.hid hB
    have HC := Lib.hid hC
    have T1 := Lib.hid (fun v y w hv hy => BraceSolution_impl T U v y w hv hy)
    have T3 := Lib.hid (fun v y w hv hy => BraceSolution_spec T U v y w hv hy)
    rw [← hA, ← hB, ← hC] at T1 T3
    clear hA hB hC
    replace hX := hX.trans hx
    have HR := Lib.hid (HR.out.ext hx)
    have HU := Lib.hid (HU.out.ext hx)
    clear hx
    go_wp2_with fail
    generalize (w1.alloc (.cells #[.slice (some ⟨b2, o2, none⟩) T.length c2, .slice (some ⟨yb, yo, none⟩) U.length yc] 26)) = w2 at *
    refine (T1.out _ _ _ HR.out HU.out).mono ?_
    rintro e w3 ⟨p1, p2, rfl, ph, hx⟩
    replace hX := hX.trans hx
    replace gk0 := hx.cell gk0
    replace gk1 := hx.cell gk1
    have HR := Lib.hid (HR.out.ext hx)
    have HU := Lib.hid (HU.out.ext hx)
    have Hp1 := Lib.hid (ph.toR.1)
    have Hp2 := Lib.hid (ph.toR.2)
    have HpS := Lib.hid ph.smallB
    clear hx ph
    obtain ⟨pa, pc, rfl, -⟩ := id Hp1.out
    obtain ⟨pb, pd, rfl, -⟩ := id Hp2.out
    have hx : Ext w3 (w3.alloc (.cells #[.slice pa (A).length pc, .slice pb (B).length pd] 29)) := (Ext.refl _).alloc _
    have pk0 := cell_new2a w3 (.slice pa (A).length pc) (.slice pb (B).length pd) 29
    have pk1 := cell_new2b w3 (.slice pa (A).length pc) (.slice pb (B).length pd) 29
    replace hX := hX.trans hx
    replace gk0 := hx.cell gk0
    replace gk1 := hx.cell gk1
    have HR := Lib.hid (HR.out.ext hx)
    have HU := Lib.hid (HU.out.ext hx)
    have Hp1 := Lib.hid (Hp1.out.ext hx)
    have Hp2 := Lib.hid (Hp2.out.ext hx)
    clear hx
    go_wp2_with fail
    generalize (w3.alloc (.cells #[.slice pa (A).length pc, .slice pb (B).length pd] 29)) = w4 at *
    refine (T3.out _ _ _ HR.out HU.out).mono ?_
    rintro e w5 ⟨q1, q2, rfl, qh, hx⟩
    replace hX := hX.trans hx
    replace gk0 := hx.cell gk0
    replace gk1 := hx.cell gk1
    replace pk0 := hx.cell pk0
    replace pk1 := hx.cell pk1
    have HR := Lib.hid (HR.out.ext hx)
    have HU := Lib.hid (HU.out.ext hx)
    have Hp1 := Lib.hid (Hp1.out.ext hx)
    have Hp2 := Lib.hid (Hp2.out.ext hx)
    have Hq1 := Lib.hid (qh.1)
    have Hq2 := Lib.hid (qh.2)
    clear hx qh
    obtain ⟨qa, qc, rfl, -⟩ := id Hq1.out
    obtain ⟨qb, qd, rfl, -⟩ := id Hq2.out
    have hx : Ext w5 (w5.alloc (.cells #[.slice qa (A).length qc, .slice qb (B).length qd] 29)) := (Ext.refl _).alloc _
    have qk0 := cell_new2a w5 (.slice qa (A).length qc) (.slice qb (B).length qd) 29
    have qk1 := cell_new2b w5 (.slice qa (A).length qc) (.slice qb (B).length qd) 29
    have hX := hX.trans hx
    have gk0 := hx.cell gk0
    have gk1 := hx.cell gk1
    have pk0 := hx.cell pk0
    have pk1 := hx.cell pk1
    have HR := Lib.hid (HR.out.ext hx)
    have HU := Lib.hid (HU.out.ext hx)
    have Hp1 := Lib.hid (Hp1.out.ext hx)
    have Hp2 := Lib.hid (Hp2.out.ext hx)
    have Hq1 := Lib.hid (Hq1.out.ext hx)
    have Hq2 := Lib.hid (Hq2.out.ext hx)
    go_upto_region 6 with fail
    generalize (w5.alloc (.cells #[.slice qa (A).length qc, .slice qb (B).length qd] 29)) = w6 at *
    go_cut [48] (fun v wx => v = .bool false ∧ Ext w6 wx)
    case first =>
      go_wp2_with (go_at_call 8; refine (solution9_same A B _ _ _ _ _ Hp1.out Hp2.out Hq1.out Hq2.out HpS.out.1 HpS.out.2).mono ?_; rintro e w7 ⟨rfl, hz⟩)
      go_meet
      case rel => exact ⟨rfl, hz⟩
    obtain ⟨rfl, hz⟩ := hcut
    clear hx qk0 qk1 Hq1 Hq2 T1 T3
    replace hX := hX.trans hz
    replace gk0 := hz.cell gk0
    replace gk1 := hz.cell gk1
    replace pk0 := hz.cell pk0
    replace pk1 := hz.cell pk1
    have HR := Lib.hid (HR.out.ext hz)
    have HU := Lib.hid (HU.out.ext hz)
    have Hp1 := Lib.hid (Hp1.out.ext hz)
    have Hp2 := Lib.hid (Hp2.out.ext hz)
    clear hz
    cases hb : braceB T U with
    | false =>
      have hC1 : C = 1 := by rw [HC.out]; exact codeB_no hb
      have hA1 : A = [] := by rw [HA.out]; exact ifB_no hb
      subst hC1
      subst hA1
      go_wp2
      go_ret
      exact ⟨rfl, hX⟩
    | true =>
      have hC1 : C = 0 := by rw [HC.out]; exact codeB_yes hb
      have hA1 : A = mkT T.length (lamF T U) := by rw [HA.out]; exact ifB_yes hb
      have hB1 : B = mkT T.length (solF T U) := by rw [HBB.out]; exact ifB_yes hb
      subst hC1
      have hok := braceB_ok hb
      have hb2 := opp_brace hb
      have hg := groupB_iff.2 hok.1
      have HSO := brace_sol hb
      have HND := brace_nd hb
      have HIV := brace_inv hb
      have HDR := brace_der hb
      have HKO := (conj_quand hok.1).1
      have HIO := fun X Y (h : InvTo (mkT T.length (lamF T U)) (mkT T.length (solF T U)) T.length 0 X Y) => inv_opp hb h
      have HLA : A.length = T.length := by rw [hA1, length_mkT]
      rw [← hA1, ← hB1] at HSO HND HIV HDR HIO
      have HRT := Lib.hid (turn_ok hok.1.1)
      have HRU := Lib.hid hok.2.1.1
      have HP1 := Lib.hid (rowsR_ok Hp1.out HSO.l)
      have HP2 := Lib.hid (rowsR_ok Hp2.out HSO.s)
      obtain ⟨q, hq⟩ : ∃ q, q = abelB T := ⟨_, rfl⟩
      obtain ⟨K, hK⟩ : ∃ K, K = mkT T.length (conjF T) := ⟨_, rfl⟩
      obtain ⟨L2, hL2⟩ : ∃ L2, L2 = mkT T.length (lamF (turnT T) U) := ⟨_, rfl⟩
      obtain ⟨S2, hS2⟩ : ∃ S2, S2 = mkT T.length (solF (turnT T) U) := ⟨_, rfl⟩
      have HKL : K.length = T.length := by rw [hK, length_mkT]
      have HTL : (turnT T).length = T.length := length_turnT T
      rw [← hK] at HDR HKO
      rw [← hL2, ← hS2] at HIO
      have c2 := Lib.hid (fun v y w hv hy => IsInvolutive_any A B v y w hv hy HSO)
      have c3 := Lib.hid (fun v y w hv hy => IsClassicalBrace_impl T U v y w hv hy)
      have c4 := Lib.hid (fun v y w hv hy => DerivedRack_ok A B v y w hv hy HSO HND.1 HND.2)
      have c5 := Lib.hid (fun v w hv => GroupConjugation_impl T v w hv)
      have c6 := Lib.hid (fun v w hv => DualRack_ok K v w hv HKO)
      have c7 := Lib.hid (fun v y w hv hy => OppositeBrace_impl T U v y w hv hy)
      have c8 := Lib.hid (fun v y w hv hy => BraceSolution_impl (turnT T) U v y w hv hy)
      rw [HLA, HIV, ← hq] at c2
      rw [ifB_yes hb, codeB_yes hb, ← hq] at c3
      rw [HLA, HDR] at c4
      rw [ifG_yes hg, codeG_yes hg, ← hK] at c5
      rw [HKL] at c6
      rw [ifB_yes hb, ifB_yes hb, codeB_yes hb] at c7
      rw [ifB_yes hb2, ifB_yes hb2, codeB_yes hb2, HTL, ← hL2, ← hS2] at c8
      obtain ⟨R, hR⟩ : ∃ R, R = mkT T.length (dualF K) := ⟨_, rfl⟩
      rw [← hR] at c4 c6
      have HKT := Lib.hid HKO.tab
      have HSO := Lib.hid HSO
      have HND := Lib.hid HND
      have HIO := Lib.hid HIO
      have HLAh := Lib.hid HLA
      have HRS := Lib.hid (show Small R by rw [hR]; exact small_mkT (by omega) _)
      clear HLA HTL hA1 hB1 hok hb2 hg HIV HDR HKO hq hK hL2 hS2 HKL hR HA HBB HC hb HpS Hp1 Hp2
      go_wp2_with fail
      refine (IsNondegenerate_ok A B _ _ _ HP1.out HP2.out HSO.out HND.out.1 HND.out.2).mono ?_
      rintro e w8 ⟨rfl, hx⟩
      replace hX := hX.trans hx
      replace gk0 := hx.cell gk0
      replace gk1 := hx.cell gk1
      replace pk0 := hx.cell pk0
      replace pk1 := hx.cell pk1
      have HR := Lib.hid (HR.out.ext hx)
      have HU := Lib.hid (HU.out.ext hx)
      have HP1 := Lib.hid (HP1.out.ext hx)
      have HP2 := Lib.hid (HP2.out.ext hx)
      clear hx
      go_wp2_with fail
      refine (c2.out _ _ _ HP1.out HP2.out).mono ?_
      rintro e w9 ⟨rfl, hx⟩
      replace hX := hX.trans hx
      replace gk0 := hx.cell gk0
      replace gk1 := hx.cell gk1
      replace pk0 := hx.cell pk0
      replace pk1 := hx.cell pk1
      have HR := Lib.hid (HR.out.ext hx)
      have HU := Lib.hid (HU.out.ext hx)
      have HP1 := Lib.hid (HP1.out.ext hx)
      have HP2 := Lib.hid (HP2.out.ext hx)
      clear hx
      go_wp2_with fail
      refine (c3.out _ _ _ HR.out HU.out).mono ?_
      rintro e w10 ⟨rfl, hx⟩
      replace hX := hX.trans hx
      replace gk0 := hx.cell gk0
      replace gk1 := hx.cell gk1
      replace pk0 := hx.cell pk0
      replace pk1 := hx.cell pk1
      have HR := Lib.hid (HR.out.ext hx)
      have HU := Lib.hid (HU.out.ext hx)
      have HP1 := Lib.hid (HP1.out.ext hx)
      have HP2 := Lib.hid (HP2.out.ext hx)
      clear hx
      go_wp2_with fail
      refine (c4.out _ _ _ HP1.out HP2.out).mono ?_
      rintro e w11 ⟨rb, rc, rfl, rh, hx⟩
      replace hX := hX.trans hx
      replace gk0 := hx.cell gk0
      replace gk1 := hx.cell gk1
      replace pk0 := hx.cell pk0
      replace pk1 := hx.cell pk1
      have HR := Lib.hid (HR.out.ext hx)
      have HU := Lib.hid (HU.out.ext hx)
      have HP1 := Lib.hid (HP1.out.ext hx)
      have HP2 := Lib.hid (HP2.out.ext hx)
      have Hr := Lib.hid rh
      clear hx rh
      have hx := ext_box w11 (.slice (some ⟨rb, 0, none⟩) T.length rc) 37
      have rk := cell_new w11 (.slice (some ⟨rb, 0, none⟩) T.length rc) 37
      replace hX := hX.trans hx
      replace gk0 := hx.cell gk0
      replace gk1 := hx.cell gk1
      replace pk0 := hx.cell pk0
      replace pk1 := hx.cell pk1
      have HR := Lib.hid (HR.out.ext hx)
      have HU := Lib.hid (HU.out.ext hx)
      have HP1 := Lib.hid (HP1.out.ext hx)
      have HP2 := Lib.hid (HP2.out.ext hx)
      have Hr := Lib.hid (Hr.out.ext hx)
      clear hx
      go_wp2_with fail
      generalize (w11.alloc (.cells #[.slice (some ⟨rb, 0, none⟩) T.length rc] 37)) = w12 at *
      refine (c5.out _ _ HR.out).mono ?_
      rintro e w13 ⟨k1, rfl, kh, hx⟩
      replace hX := hX.trans hx
      replace gk0 := hx.cell gk0
      replace gk1 := hx.cell gk1
      replace pk0 := hx.cell pk0
      replace pk1 := hx.cell pk1
      replace rk := hx.cell rk
      have HR := Lib.hid (HR.out.ext hx)
      have HU := Lib.hid (HU.out.ext hx)
      have HP1 := Lib.hid (HP1.out.ext hx)
      have HP2 := Lib.hid (HP2.out.ext hx)
      have Hr := Lib.hid (Hr.out.ext hx)
      have Hk := Lib.hid (rowsR_ok kh.toR HKT.out)
      clear hx kh
      obtain ⟨kb, ko, kc, rfl⟩ := Hk.out.shape
      have hx := ext_box w13 (.slice (some ⟨kb, ko, none⟩) K.length kc) 37
      have kk := cell_new w13 (.slice (some ⟨kb, ko, none⟩) K.length kc) 37
      replace hX := hX.trans hx
      replace gk0 := hx.cell gk0
      replace gk1 := hx.cell gk1
      replace pk0 := hx.cell pk0
      replace pk1 := hx.cell pk1
      replace rk := hx.cell rk
      have HR := Lib.hid (HR.out.ext hx)
      have HU := Lib.hid (HU.out.ext hx)
      have HP1 := Lib.hid (HP1.out.ext hx)
      have HP2 := Lib.hid (HP2.out.ext hx)
      have Hr := Lib.hid (Hr.out.ext hx)
      have Hk := Lib.hid (Hk.out.ext hx)
      clear hx
      go_wp2_with fail
      generalize (w13.alloc (.cells #[.slice (some ⟨kb, ko, none⟩) K.length kc] 37)) = w14 at *
      refine (c6.out _ _ Hk.out).mono ?_
      rintro e w15 ⟨db, dc, rfl, dh, hx⟩
      replace hX := hX.trans hx
      replace gk0 := hx.cell gk0
      replace gk1 := hx.cell gk1
      replace pk0 := hx.cell pk0
      replace pk1 := hx.cell pk1
      replace rk := hx.cell rk
      replace kk := hx.cell kk
      have HR := Lib.hid (HR.out.ext hx)
      have HU := Lib.hid (HU.out.ext hx)
      have HP1 := Lib.hid (HP1.out.ext hx)
      have HP2 := Lib.hid (HP2.out.ext hx)
      have Hr := Lib.hid (Hr.out.ext hx)
      have Hk := Lib.hid (Hk.out.ext hx)
      have Hd := Lib.hid dh
      clear hx dh
      have hx := ext_box w15 (.slice (some ⟨db, 0, none⟩) T.length dc) 37
      have dk := cell_new w15 (.slice (some ⟨db, 0, none⟩) T.length dc) 37
      replace hX := hX.trans hx
      replace gk0 := hx.cell gk0
      replace gk1 := hx.cell gk1
      replace pk0 := hx.cell pk0
      replace pk1 := hx.cell pk1
      replace rk := hx.cell rk
      replace kk := hx.cell kk
      have HR := Lib.hid (HR.out.ext hx)
      have HU := Lib.hid (HU.out.ext hx)
      have HP1 := Lib.hid (HP1.out.ext hx)
      have HP2 := Lib.hid (HP2.out.ext hx)
      have Hr := Lib.hid (Hr.out.ext hx)
      have Hk := Lib.hid (Hk.out.ext hx)
      have Hd := Lib.hid (Hd.out.ext hx)
      clear hx
      go_wp2_with fail
      generalize (w15.alloc (.cells #[.slice (some ⟨db, 0, none⟩) T.length dc] 37)) = w16 at *
      refine (c7.out _ _ _ HR.out HU.out).mono ?_
      rintro e w17 ⟨s1, s2, rfl, sh, hx⟩
      replace hX := hX.trans hx
      replace gk0 := hx.cell gk0
      replace gk1 := hx.cell gk1
      replace pk0 := hx.cell pk0
      replace pk1 := hx.cell pk1
      replace rk := hx.cell rk
      replace kk := hx.cell kk
      replace dk := hx.cell dk
      have HR := Lib.hid (HR.out.ext hx)
      have HU := Lib.hid (HU.out.ext hx)
      have HP1 := Lib.hid (HP1.out.ext hx)
      have HP2 := Lib.hid (HP2.out.ext hx)
      have Hr := Lib.hid (Hr.out.ext hx)
      have Hk := Lib.hid (Hk.out.ext hx)
      have Hd := Lib.hid (Hd.out.ext hx)
      have Hs1 := Lib.hid (sh.toR.1)
      have Hs2 := Lib.hid (sh.toR.2)
      have HsS := Lib.hid sh.smallB
      clear hx sh
      obtain ⟨sa, sc, rfl, -⟩ := id Hs1.out
      obtain ⟨sb, sd, rfl, -⟩ := id Hs2.out
      have hx : Ext w17 (w17.alloc (.cells #[.slice sa ((turnT T)).length sc, .slice sb (U).length sd] 26)) := (Ext.refl _).alloc _
      have sk0 := cell_new2a w17 (.slice sa ((turnT T)).length sc) (.slice sb (U).length sd) 26
      have sk1 := cell_new2b w17 (.slice sa ((turnT T)).length sc) (.slice sb (U).length sd) 26
      replace hX := hX.trans hx
      replace gk0 := hx.cell gk0
      replace gk1 := hx.cell gk1
      replace pk0 := hx.cell pk0
      replace pk1 := hx.cell pk1
      replace rk := hx.cell rk
      replace kk := hx.cell kk
      replace dk := hx.cell dk
      have HR := Lib.hid (HR.out.ext hx)
      have HU := Lib.hid (HU.out.ext hx)
      have HP1 := Lib.hid (HP1.out.ext hx)
      have HP2 := Lib.hid (HP2.out.ext hx)
      have Hr := Lib.hid (Hr.out.ext hx)
      have Hk := Lib.hid (Hk.out.ext hx)
      have Hd := Lib.hid (Hd.out.ext hx)
      have Hs1 := Lib.hid (Hs1.out.ext hx)
      have Hs2 := Lib.hid (Hs2.out.ext hx)
      clear hx
      go_wp2_with fail
      generalize (w17.alloc (.cells #[.slice sa ((turnT T)).length sc, .slice sb (U).length sd] 26)) = w18 at *
      refine (c8.out _ _ _ (rowsR_ok Hs1.out HRT.out) (rowsR_ok Hs2.out HRU.out)).mono ?_
      rintro e w19 ⟨t1, t2, rfl, th, hx⟩
      replace hX := hX.trans hx
      replace gk0 := hx.cell gk0
      replace gk1 := hx.cell gk1
      replace pk0 := hx.cell pk0
      replace pk1 := hx.cell pk1
      replace rk := hx.cell rk
      replace kk := hx.cell kk
      replace dk := hx.cell dk
      replace sk0 := hx.cell sk0
      replace sk1 := hx.cell sk1
      have HR := Lib.hid (HR.out.ext hx)
      have HU := Lib.hid (HU.out.ext hx)
      have HP1 := Lib.hid (HP1.out.ext hx)
      have HP2 := Lib.hid (HP2.out.ext hx)
      have Hr := Lib.hid (Hr.out.ext hx)
      have Hk := Lib.hid (Hk.out.ext hx)
      have Hd := Lib.hid (Hd.out.ext hx)
      have Hs1 := Lib.hid (Hs1.out.ext hx)
      have Hs2 := Lib.hid (Hs2.out.ext hx)
      have Ht1 := Lib.hid (th.toR.1)
      have Ht2 := Lib.hid (th.toR.2)
      have HtS := Lib.hid th.smallB
      clear hx th
      obtain ⟨ta, tc, rfl, -⟩ := id Ht1.out
      obtain ⟨tb, td, rfl, -⟩ := id Ht2.out
      have hx : Ext w19 (w19.alloc (.cells #[.slice ta (L2).length tc, .slice tb (S2).length td] 29)) := (Ext.refl _).alloc _
      have tk0 := cell_new2a w19 (.slice ta (L2).length tc) (.slice tb (S2).length td) 29
      have tk1 := cell_new2b w19 (.slice ta (L2).length tc) (.slice tb (S2).length td) 29
      replace hX := hX.trans hx
      replace gk0 := hx.cell gk0
      replace gk1 := hx.cell gk1
      replace pk0 := hx.cell pk0
      replace pk1 := hx.cell pk1
      replace rk := hx.cell rk
      replace kk := hx.cell kk
      replace dk := hx.cell dk
      replace sk0 := hx.cell sk0
      replace sk1 := hx.cell sk1
      have HR := Lib.hid (HR.out.ext hx)
      have HU := Lib.hid (HU.out.ext hx)
      have HP1 := Lib.hid (HP1.out.ext hx)
      have HP2 := Lib.hid (HP2.out.ext hx)
      have Hr := Lib.hid (Hr.out.ext hx)
      have Hk := Lib.hid (Hk.out.ext hx)
      have Hd := Lib.hid (Hd.out.ext hx)
      have Hs1 := Lib.hid (Hs1.out.ext hx)
      have Hs2 := Lib.hid (Hs2.out.ext hx)
      have Ht1 := Lib.hid (Ht1.out.ext hx)
      have Ht2 := Lib.hid (Ht2.out.ext hx)
      clear hx
      go_wp2_with fail
      generalize (w19.alloc (.cells #[.slice ta (L2).length tc, .slice tb (S2).length td] 29)) = w20 at *
      refine (InverseSolution_ok A B _ _ _ HP1.out HP2.out HSO.out).mono ?_
      rintro e w21 ⟨ib, ic, ib2, ic2, X, Y, rfl, ih1, ih2, ih3, hx⟩
      replace hX := hX.trans hx
      replace gk0 := hx.cell gk0
      replace gk1 := hx.cell gk1
      replace pk0 := hx.cell pk0
      replace pk1 := hx.cell pk1
      replace rk := hx.cell rk
      replace kk := hx.cell kk
      replace dk := hx.cell dk
      replace sk0 := hx.cell sk0
      replace sk1 := hx.cell sk1
      replace tk0 := hx.cell tk0
      replace tk1 := hx.cell tk1
      have HR := Lib.hid (HR.out.ext hx)
      have HU := Lib.hid (HU.out.ext hx)
      have HP1 := Lib.hid (HP1.out.ext hx)
      have HP2 := Lib.hid (HP2.out.ext hx)
      have Hr := Lib.hid (Hr.out.ext hx)
      have Hk := Lib.hid (Hk.out.ext hx)
      have Hd := Lib.hid (Hd.out.ext hx)
      have Hs1 := Lib.hid (Hs1.out.ext hx)
      have Hs2 := Lib.hid (Hs2.out.ext hx)
      have Ht1 := Lib.hid (Ht1.out.ext hx)
      have Ht2 := Lib.hid (Ht2.out.ext hx)
      rw [HLAh.out] at ih3
      obtain ⟨e1, e2⟩ := HIO.out X Y ih3
      rw [e1] at ih1
      rw [e2] at ih2
      have Hi1 := Lib.hid ih1
      have Hi2 := Lib.hid ih2
      clear hx ih1 ih2 ih3 e1 e2
      have hx : Ext w21 (w21.alloc (.cells #[.slice (some ⟨ib, 0, none⟩) A.length ic, .slice (some ⟨ib2, 0, none⟩) A.length ic2] 29)) := (Ext.refl _).alloc _
      have ik0 := cell_new2a w21 (.slice (some ⟨ib, 0, none⟩) A.length ic) (.slice (some ⟨ib2, 0, none⟩) A.length ic2) 29
      have ik1 := cell_new2b w21 (.slice (some ⟨ib, 0, none⟩) A.length ic) (.slice (some ⟨ib2, 0, none⟩) A.length ic2) 29
      replace hX := hX.trans hx
      replace gk0 := hx.cell gk0
      replace gk1 := hx.cell gk1
      replace pk0 := hx.cell pk0
      replace pk1 := hx.cell pk1
      replace rk := hx.cell rk
      replace kk := hx.cell kk
      replace dk := hx.cell dk
      replace sk0 := hx.cell sk0
      replace sk1 := hx.cell sk1
      replace tk0 := hx.cell tk0
      replace tk1 := hx.cell tk1
      have HR := Lib.hid (HR.out.ext hx)
      have HU := Lib.hid (HU.out.ext hx)
      have HP1 := Lib.hid (HP1.out.ext hx)
      have HP2 := Lib.hid (HP2.out.ext hx)
      have Hr := Lib.hid (Hr.out.ext hx)
      have Hk := Lib.hid (Hk.out.ext hx)
      have Hd := Lib.hid (Hd.out.ext hx)
      have Hs1 := Lib.hid (Hs1.out.ext hx)
      have Hs2 := Lib.hid (Hs2.out.ext hx)
      have Ht1 := Lib.hid (Ht1.out.ext hx)
      have Ht2 := Lib.hid (Ht2.out.ext hx)
      have Hi1 := Lib.hid (Hi1.out.ext hx)
      have Hi2 := Lib.hid (Hi2.out.ext hx)
      clear hx c2 c3 c4 c5 c6 c7 c8
      go_wp2_with fail
      generalize (w21.alloc (.cells #[.slice (some ⟨ib, 0, none⟩) A.length ic, .slice (some ⟨ib2, 0, none⟩) A.length ic2] 29)) = w22 at *
      refine (IsSolution_ok A B _ _ _ HP1.out HP2.out HSO.out).mono ?_
      rintro e w23 ⟨rfl, hx⟩
      replace hX := hX.trans hx
      replace gk0 := hx.cell gk0
      replace gk1 := hx.cell gk1
      replace pk0 := hx.cell pk0
      replace pk1 := hx.cell pk1
      replace rk := hx.cell rk
      replace kk := hx.cell kk
      replace dk := hx.cell dk
      replace sk0 := hx.cell sk0
      replace sk1 := hx.cell sk1
      replace tk0 := hx.cell tk0
      replace tk1 := hx.cell tk1
      replace ik0 := hx.cell ik0
      replace ik1 := hx.cell ik1
      have HR := Lib.hid (HR.out.ext hx)
      have HU := Lib.hid (HU.out.ext hx)
      have HP1 := Lib.hid (HP1.out.ext hx)
      have HP2 := Lib.hid (HP2.out.ext hx)
      have Hr := Lib.hid (Hr.out.ext hx)
      have Hk := Lib.hid (Hk.out.ext hx)
      have Hd := Lib.hid (Hd.out.ext hx)
      have Hs1 := Lib.hid (Hs1.out.ext hx)
      have Hs2 := Lib.hid (Hs2.out.ext hx)
      have Ht1 := Lib.hid (Ht1.out.ext hx)
      have Ht2 := Lib.hid (Ht2.out.ext hx)
      have Hi1 := Lib.hid (Hi1.out.ext hx)
      have Hi2 := Lib.hid (Hi2.out.ext hx)
      clear hx
      go_wp2_with (first
        | (go_at_call 8; refine (solution9_same L2 S2 _ _ _ _ _ (Ht1.out.ext hzA) (Ht2.out.ext hzA) (Hi1.out.ext hzA) (Hi2.out.ext hzA) HtS.out.1 HtS.out.2).mono ?_; rintro e wB ⟨rfl, hzB⟩)
        | (go_at_call 18; refine (same9_any R R _ _ _ Hr.out.toR Hd.out.toR HRS.out).mono ?_; rintro e wA ⟨rfl, hdA⟩; have hzA := hdA.ext; rw [eqTB_yes (rfl : R = R)]; replace tk0 := hzA.cell tk0; replace tk1 := hzA.cell tk1; replace ik0 := hzA.cell ik0; replace ik1 := hzA.cell ik1))
      go_ret
      exact ⟨rfl, (hX.trans hzA).trans hzB⟩
end Go.Proofs.YtjbloenjphpngaaGreat
