/-
  The law FnGarside, walked.
-/
import Derived.Test.YtjfjpngajboidaaGreatKx50
namespace Go.Proofs.YtjfjpngajboidaaGreat
set_option linter.unusedVariables false
set_option linter.unusedSimpArgs false
open Go.RowKit
attribute [local go_sem ↓] Go.wp_at_zero Go.wp_at_succ
open Go.Deep

noncomputable def onlyL (c : Int) (p : List Int) : List Int := if c = 0 then p else []
theorem retWI_R {c : Int} {p : List Int} {w : World} {v : Value} (h1 : c = 0 → Ints w v p) (h2 : c ≠ 0 → v = .slice none 0 0) : IntsR w v (onlyL c p) ∧ (onlyL c p).length ≤ 1048576 := by
  unfold onlyL
  by_cases h : c = 0
  · rw [if_pos h]
    exact ⟨(h1 h).toR, (h1 h).1⟩
  · rw [if_neg h, h2 h]
    exact ⟨⟨none, 0, rfl, fun k => absurd rfl k⟩, by simp⟩
theorem ints_one {w : World} {g : Nat} (x : Int) (e : TypeId) (hg : g = w.heap.size) : Ints (w.alloc (.cells #[.int .i64 x] e)) (.slice (some ⟨g, 0, none⟩) 1 1) [x] := by
  subst hg
  refine ⟨by simp, w.heap.size, 0, 1, rfl, fun i hi => ?_⟩
  match i, hi with
  | 0, _ => simp [go_sem, ix_eq]

set_option maxRecDepth 100000 in
set_option maxHeartbeats 8000000 in
theorem lawGarside (w : World) (bs : List Int) (v : Value) (hv : BytesR w v bs) :
    Calls Tryz.prog 4 #[v] w fun e w' => e = .returned (.bool true) ∧ Ext w w' := by
  obtain ⟨va, vc, rfl, -⟩ := id hv
  go_enter Tryz.func4, Tryz.ntmps4
  go_wp2_with fail
  refine (big_any va bs.length vc w).mono ?_
  rintro e w1 ⟨rfl, rfl⟩
  by_cases hbig : 4096 < (bs.length : Int)
  case pos =>
    go_wp2
    go_ret
    exact ⟨rfl, Ext.refl _⟩
  case neg =>
    have HV := Lib.hid hv
    have HB := Lib.hid (show bs.length ≤ 4096 by omega)
    go_wp2_with fail
    refine (DrawGarsideWord_any bs _ _ HV.out HB.out).mono ?_
    rintro e w1 ⟨v1, y1, L, U, rfl, hA, hU, hX⟩
    obtain ⟨-, d1, o1, c1, rfl, -⟩ := id hA
    obtain ⟨-, d2, o2, c2, rfl, -⟩ := id hU
    have hxb : Ext w1 (w1.alloc (.cells #[.slice (some ⟨d1, o1, none⟩) L.length c1, .slice (some ⟨d2, o2, none⟩) U.length c2] 26)) := (Ext.refl _).alloc _
    have k0 := cell_new2a w1 (.slice (some ⟨d1, o1, none⟩) L.length c1) (.slice (some ⟨d2, o2, none⟩) U.length c2) 26
    have k1 := cell_new2b w1 (.slice (some ⟨d1, o1, none⟩) L.length c1) (.slice (some ⟨d2, o2, none⟩) U.length c2) 26
    have HA := Lib.hid (hA.ext hxb)
    have HU := Lib.hid (hU.ext hxb)
    have HX := Lib.hid (hX.trans hxb)
    clear hA hU hX hxb hv hbig
    obtain ⟨C, hC⟩ : ∃ C, C = gaC L U := ⟨_, rfl⟩
    obtain ⟨gv, hgv⟩ : ∃ q, q = gaV L U := ⟨_, rfl⟩
    have T1 : ∀ (F : FuncId) (W : World), Calls Tryz.prog F #[.agg #[.slice (some ⟨d1, o1, none⟩) L.length c1, .slice (some ⟨d2, o2, none⟩) U.length c2]] W (RetWI (gaC L U) (gaV L U) W) → Calls Tryz.prog F #[.agg #[.slice (some ⟨d1, o1, none⟩) L.length c1, .slice (some ⟨d2, o2, none⟩) U.length c2]] W fun e W' => ∃ x, e = .returned (.tuple #[x, .int .i64 C]) ∧ IntsR W' x (onlyL C gv) ∧ (onlyL C gv).length ≤ 1048576 ∧ (C = 0 → Ints W' x gv) ∧ Ext W W' := fun F W h => h.mono (by
      rintro e W' ⟨x, rfl, h1, h2, hx⟩
      obtain ⟨h3, h4⟩ := retWI_R h1 h2
      rw [← hC, ← hgv] at h3 h4
      exact ⟨x, by rw [hC], h3, h4, fun hc => by rw [hgv]; exact h1 (by rw [← hC]; exact hc), hx⟩)
    have T1 := Lib.hid T1
    have HC := Lib.hid hC
    have HGV := Lib.hid hgv
    clear hC hgv
    go_wp2_with fail
    generalize (w1.alloc (.cells #[.slice (some ⟨d1, o1, none⟩) L.length c1, .slice (some ⟨d2, o2, none⟩) U.length c2] 26)) = w2 at *
    refine (T1.out _ _ (GarsideWord_impl L U _ _ _ HA.out HU.out)).mono ?_
    rintro e w3 ⟨x3, rfl, hx3, hl3, hi3, hX3⟩
    have HI := Lib.hid hx3
    have HI0 := Lib.hid hi3
    have HL := Lib.hid hl3
    have HXA := Lib.hid hX3
    have k0 := hX3.cell k0
    have k1 := hX3.cell k1
    clear hx3 hl3 hX3 hi3
    go_wp2_with fail
    refine (T1.out _ _ (GarsideWord_any L U _ _ _ (HA.out.ext HXA.out) (HU.out.ext HXA.out))).mono ?_
    rintro e w4 ⟨x4, rfl, hx4, -, -, hX4⟩
    have HI := Lib.hid (HI.out.ext hX4)
    have HI0 := Lib.hid (fun hc => (HI0.out hc).ext hX4)
    have HJ := Lib.hid hx4
    have HXB := Lib.hid (HXA.out.trans hX4)
    have k0 := hX4.cell k0
    have k1 := hX4.cell k1
    clear hx4 hX4 HXA T1
    go_wp2_with fail
    refine (likeInts_any (onlyL C gv) (onlyL C gv) _ _ _ HI.out HJ.out HL.out).mono ?_
    rintro e w5 ⟨rfl, hd5⟩
    rw [show eqIB (onlyL C gv) (onlyL C gv) = true from eqIB_yes rfl]
    have HI0 := Lib.hid (fun hc => (HI0.out hc).ext hd5.ext)
    have HXC := Lib.hid (HXB.out.trans hd5.ext)
    have k0 := hd5.ext.cell k0
    have k1 := hd5.ext.cell k1
    clear hd5 HI HJ HL HXB
    by_cases hc : C = 0
    case neg =>
      have HXY := Lib.hid (HX.out.trans HXC.out)
      clear HXC HX HI0 HC HGV HA HU k0 k1
      go_wp2_with fail
      refine (DrawCommonMultiple_any bs _ _ (HV.out.ext HXY.out) HB.out).mono ?_
      rintro e wa ⟨va1, ya1, LA, UA, p, q, rfl, hA, hU, hX⟩
      obtain ⟨-, e1, f1, g1, rfl, -⟩ := id hA
      obtain ⟨-, e2, f2, g2, rfl, -⟩ := id hU
      have hxb : Ext wa (wa.alloc (.cells #[.slice (some ⟨e1, f1, none⟩) LA.length g1, .slice (some ⟨e2, f2, none⟩) UA.length g2] 26)) := (Ext.refl _).alloc _
      have k0 := cell_new2a wa (.slice (some ⟨e1, f1, none⟩) LA.length g1) (.slice (some ⟨e2, f2, none⟩) UA.length g2) 26
      have k1 := cell_new2b wa (.slice (some ⟨e1, f1, none⟩) LA.length g1) (.slice (some ⟨e2, f2, none⟩) UA.length g2) 26
      have HA := Lib.hid (hA.ext hxb)
      have HU := Lib.hid (hU.ext hxb)
      have HX := Lib.hid ((HXY.out.trans hX).trans hxb)
      clear hA hU hX hxb HXY
      obtain ⟨D, hD⟩ : ∃ C, C = cmC LA UA p q := ⟨_, rfl⟩
      obtain ⟨cv, hcv⟩ : ∃ q', q' = cmV LA UA p q := ⟨_, rfl⟩
      have T2 : ∀ (F : FuncId) (W : World), Calls Tryz.prog F #[.agg #[.slice (some ⟨e1, f1, none⟩) LA.length g1, .slice (some ⟨e2, f2, none⟩) UA.length g2], .int .i64 p, .int .i64 q] W (RetWI (cmC LA UA p q) (cmV LA UA p q) W) → Calls Tryz.prog F #[.agg #[.slice (some ⟨e1, f1, none⟩) LA.length g1, .slice (some ⟨e2, f2, none⟩) UA.length g2], .int .i64 p, .int .i64 q] W fun e W' => ∃ x, e = .returned (.tuple #[x, .int .i64 D]) ∧ IntsR W' x (onlyL D cv) ∧ (onlyL D cv).length ≤ 1048576 ∧ (D = 0 → Ints W' x cv) ∧ Ext W W' := fun F W h => h.mono (by
        rintro e W' ⟨x, rfl, h1, h2, hx⟩
        obtain ⟨h3, h4⟩ := retWI_R h1 h2
        rw [← hD, ← hcv] at h3 h4
        exact ⟨x, by rw [hD], h3, h4, fun hc => by rw [hcv]; exact h1 (by rw [← hD]; exact hc), hx⟩)
      have T2 := Lib.hid T2
      have HD := Lib.hid hD
      have HCV := Lib.hid hcv
      clear hD hcv
      go_wp2_with fail
      generalize (wa.alloc (.cells #[.slice (some ⟨e1, f1, none⟩) LA.length g1, .slice (some ⟨e2, f2, none⟩) UA.length g2] 26)) = wb at *
      refine (T2.out _ _ (CommonMultiple_impl LA UA p q _ _ _ HA.out HU.out)).mono ?_
      rintro e wc' ⟨y3, rfl, hy3, hl3, hi3, hX3⟩
      have HI := Lib.hid hy3
      have HI0 := Lib.hid hi3
      have HL := Lib.hid hl3
      have HXA := Lib.hid hX3
      have k0 := hX3.cell k0
      have k1 := hX3.cell k1
      clear hy3 hl3 hX3 hi3
      go_wp2_with fail
      refine (T2.out _ _ (CommonMultiple_any LA UA p q _ _ _ (HA.out.ext HXA.out) (HU.out.ext HXA.out))).mono ?_
      rintro e wd ⟨y4, rfl, hy4, -, -, hX4⟩
      have HI := Lib.hid (HI.out.ext hX4)
      have HI0 := Lib.hid (fun hc => (HI0.out hc).ext hX4)
      have HJ := Lib.hid hy4
      have HXB := Lib.hid (HXA.out.trans hX4)
      have k0 := hX4.cell k0
      have k1 := hX4.cell k1
      clear hy4 hX4 HXA T2
      go_wp2_with fail
      refine (likeInts_any (onlyL D cv) (onlyL D cv) _ _ _ HI.out HJ.out HL.out).mono ?_
      rintro e we ⟨rfl, hde⟩
      rw [show eqIB (onlyL D cv) (onlyL D cv) = true from eqIB_yes rfl]
      have HI0 := Lib.hid (fun hc => (HI0.out hc).ext hde.ext)
      have HXC := Lib.hid (HXB.out.trans hde.ext)
      have k0 := hde.ext.cell k0
      have k1 := hde.ext.cell k1
      clear hde HI HJ HL HXB
      by_cases hd : D = 0
      case neg =>
        clear HD HCV HI0
        go_wp2
        go_ret
        exact ⟨rfl, HX.out.trans HXC.out⟩
      case pos =>
        subst hd
        obtain ⟨l2, ⟨a1, a2⟩, a3, a4⟩ := cm_law HD.out.symm
        rw [← HCV.out] at l2 a1 a2 a3 a4
        have HDA := Lib.hid (And.intro a1 a2)
        have HDB := Lib.hid (And.intro a3 a4)
        have hint := HI0.out rfl
        obtain ⟨-, b3, o3, c3, rfl, -⟩ := id hint
        rw [l2] at hint ⊢
        have HINT := Lib.hid hint
        clear hint l2 a1 a2 a3 a4 HI0 HD HCV
        have hxb := (Ext.refl we).alloc (.cells #[.int .i64 p] 2)
        have HI1 := Lib.hid (ints_one (w := we) p 2 rfl)
        have HXS := Lib.hid (HXC.out.trans hxb)
        have HIG := Lib.hid (HINT.out.ext hxb)
        clear hxb
        go_wp2_with fail
        refine (DividesWord_impl LA UA [p] cv _ _ _ _ _ (HA.out.ext HXS.out) (HU.out.ext HXS.out) HI1.out HIG.out).mono ?_
        rintro e wf ⟨rfl, hxf⟩
        rw [HDA.out.1, HDA.out.2]
        have k0 := (((Ext.refl we).alloc (.cells #[.int .i64 p] 2)).trans hxf).cell k0
        have k1 := (((Ext.refl we).alloc (.cells #[.int .i64 p] 2)).trans hxf).cell k1
        have HXF := Lib.hid (HXS.out.trans hxf)
        have HIF := Lib.hid (HIG.out.ext hxf)
        have hxb := (Ext.refl wf).alloc (.cells #[.int .i64 q] 2)
        have HI2 := Lib.hid (ints_one (w := wf) q 2 rfl)
        have HXT := Lib.hid (HXF.out.trans hxb)
        have HIH := Lib.hid (HIF.out.ext hxb)
        clear hxb hxf HXS HIG HI1
        go_wp2_with fail
        refine (DividesWord_impl LA UA [q] cv _ _ _ _ _ (HA.out.ext HXT.out) (HU.out.ext HXT.out) HI2.out HIH.out).mono ?_
        rintro e wg ⟨rfl, hxg⟩
        rw [HDB.out.1, HDB.out.2]
        go_wp2
        go_ret
        exact ⟨rfl, (HX.out.trans HXT.out).trans hxg⟩
    case pos =>
      subst hc
      have HG := Lib.hid (show GarOk L U gv from by rw [HGV.out]; exact gar_ok HC.out.symm)
      have hint := HI0.out rfl
      obtain ⟨-, b3, o3, c3, rfl, -⟩ := id hint
      have hgl : gv.length = L.length := HG.out.len
      rw [hgl]
      rw [hgl] at hint
      have HINT := Lib.hid hint
      have h5 := HG.out.five
      clear hint HI0 HC HGV hgl
      obtain ⟨n, hn⟩ : ∃ n, n = L.length := ⟨_, rfl⟩
      rw [← hn] at HINT h5 k0 ⊢
      have HN := Lib.hid hn
      have HAn := Lib.hid (show ∀ W, Ext w2 W → Rows W (.slice (some ⟨d1, o1, none⟩) n c1) L from fun W hW => by rw [hn]; exact HA.out.ext hW)
      clear hn
      go_upto_if 49 with fail
      go_cut [] (fun wx => Ext w wx)
      case first =>
          go_wp2_with fail
          go_loopw [9] (fun vi wr => ∃ x : Nat, x ≤ n ∧ vi = .int .i64 x ∧ Ext w5 wr) (fun vi _ => n - (intOf vi).toNat)
          case atStart => exact ⟨0, Nat.zero_le _, rfl, Ext.refl _⟩
          case round =>
            obtain ⟨x, hx, rfl, hX⟩ := hrel
            have HXR := Lib.hid hX
            have j0 := hX.cell k0
            have j1 := hX.cell k1
            clear hX
            by_cases hxl : x < n
            case pos =>
              have hxi : (x : Int) < (n : Int) := by omega
              have HDV := Lib.hid (HG.out.div (x := x) (by rw [← HN.out]; exact hxl))
              have hxb := (Ext.refl wr).alloc (.cells #[.int .i64 (x : Int)] 2)
              have HI1 := Lib.hid (ints_one (w := wr) (x : Int) 2 rfl)
              have HXS := Lib.hid ((HXC.out.trans HXR.out).trans hxb)
              have HIG := Lib.hid (HINT.out.ext (HXR.out.trans hxb))
              clear hxb
              go_wp2_with fail
              refine (DividesWord_impl L U [(x : Int)] gv _ _ _ _ _ (HAn.out _ HXS.out) (HU.out.ext HXS.out) HI1.out HIG.out).mono ?_
              rintro e w6 ⟨rfl, hx6⟩
              rw [HDV.out.1, HDV.out.2]
              have HX6 := Lib.hid ((HXR.out.trans ((Ext.refl wr).alloc (.cells #[.int .i64 (x : Int)] 2))).trans hx6)
              clear hx6 j0 j1
              go_wp2
              go_roundw
              case rel => exact ⟨x + 1, by omega, by go_num, HX6.out⟩
              case measure => simp [intOf]; omega
            case neg =>
              have hxi : ¬ (x : Int) < (n : Int) := by omega
              have HXS := Lib.hid (HXC.out.trans HXR.out)
              go_wp2_with fail
              refine (DivisorsOfWord_impl L U gv _ _ _ _ (HAn.out _ HXS.out) (HU.out.ext HXS.out) (HINT.out.ext HXR.out)).mono ?_
              rintro e w6 ⟨x6, rfl, hr6, hx6⟩
              have hcode := HG.out.code
              rw [hcode]
              rw [dvV_ok hcode] at hr6
              obtain ⟨⟨a6, c6, rfl⟩, -⟩ := hr6
              rw [HG.out.divs, ← HN.out]
              have HXZ := Lib.hid ((HX.out.trans HXS.out).trans hx6)
              clear hx6 hcode j0 j1 hxl hx
              have h1n := HG.out.sol.l.1
              rw [← HN.out] at h1n
              rcases (show n = 1 ∨ n = 2 ∨ n = 3 ∨ n = 4 ∨ n = 5 by omega) with q | q | q | q | q
              all_goals
                subst q
                go_wp2
                go_meet
                case rel => exact HXZ.out
      case rest =>
        have HXY := Lib.hid hcut
        clear HXC HX HA HU k0 k1 HG HINT HAn HN hcut h5
        go_wp2_with fail
        refine (DrawCommonMultiple_any bs _ _ (HV.out.ext HXY.out) HB.out).mono ?_
        rintro e wa ⟨va1, ya1, LA, UA, p, q, rfl, hA, hU, hX⟩
        obtain ⟨-, e1, f1, g1, rfl, -⟩ := id hA
        obtain ⟨-, e2, f2, g2, rfl, -⟩ := id hU
        have hxb : Ext wa (wa.alloc (.cells #[.slice (some ⟨e1, f1, none⟩) LA.length g1, .slice (some ⟨e2, f2, none⟩) UA.length g2] 26)) := (Ext.refl _).alloc _
        have k0 := cell_new2a wa (.slice (some ⟨e1, f1, none⟩) LA.length g1) (.slice (some ⟨e2, f2, none⟩) UA.length g2) 26
        have k1 := cell_new2b wa (.slice (some ⟨e1, f1, none⟩) LA.length g1) (.slice (some ⟨e2, f2, none⟩) UA.length g2) 26
        have HA := Lib.hid (hA.ext hxb)
        have HU := Lib.hid (hU.ext hxb)
        have HX := Lib.hid ((HXY.out.trans hX).trans hxb)
        clear hA hU hX hxb HXY
        obtain ⟨D, hD⟩ : ∃ C, C = cmC LA UA p q := ⟨_, rfl⟩
        obtain ⟨cv, hcv⟩ : ∃ q', q' = cmV LA UA p q := ⟨_, rfl⟩
        have T2 : ∀ (F : FuncId) (W : World), Calls Tryz.prog F #[.agg #[.slice (some ⟨e1, f1, none⟩) LA.length g1, .slice (some ⟨e2, f2, none⟩) UA.length g2], .int .i64 p, .int .i64 q] W (RetWI (cmC LA UA p q) (cmV LA UA p q) W) → Calls Tryz.prog F #[.agg #[.slice (some ⟨e1, f1, none⟩) LA.length g1, .slice (some ⟨e2, f2, none⟩) UA.length g2], .int .i64 p, .int .i64 q] W fun e W' => ∃ x, e = .returned (.tuple #[x, .int .i64 D]) ∧ IntsR W' x (onlyL D cv) ∧ (onlyL D cv).length ≤ 1048576 ∧ (D = 0 → Ints W' x cv) ∧ Ext W W' := fun F W h => h.mono (by
          rintro e W' ⟨x, rfl, h1, h2, hx⟩
          obtain ⟨h3, h4⟩ := retWI_R h1 h2
          rw [← hD, ← hcv] at h3 h4
          exact ⟨x, by rw [hD], h3, h4, fun hc => by rw [hcv]; exact h1 (by rw [← hD]; exact hc), hx⟩)
        have T2 := Lib.hid T2
        have HD := Lib.hid hD
        have HCV := Lib.hid hcv
        clear hD hcv
        go_wp2_with fail
        generalize (wa.alloc (.cells #[.slice (some ⟨e1, f1, none⟩) LA.length g1, .slice (some ⟨e2, f2, none⟩) UA.length g2] 26)) = wb at *
        refine (T2.out _ _ (CommonMultiple_impl LA UA p q _ _ _ HA.out HU.out)).mono ?_
        rintro e wc' ⟨y3, rfl, hy3, hl3, hi3, hX3⟩
        have HI := Lib.hid hy3
        have HI0 := Lib.hid hi3
        have HL := Lib.hid hl3
        have HXA := Lib.hid hX3
        have k0 := hX3.cell k0
        have k1 := hX3.cell k1
        clear hy3 hl3 hX3 hi3
        go_wp2_with fail
        refine (T2.out _ _ (CommonMultiple_any LA UA p q _ _ _ (HA.out.ext HXA.out) (HU.out.ext HXA.out))).mono ?_
        rintro e wd ⟨y4, rfl, hy4, -, -, hX4⟩
        have HI := Lib.hid (HI.out.ext hX4)
        have HI0 := Lib.hid (fun hc => (HI0.out hc).ext hX4)
        have HJ := Lib.hid hy4
        have HXB := Lib.hid (HXA.out.trans hX4)
        have k0 := hX4.cell k0
        have k1 := hX4.cell k1
        clear hy4 hX4 HXA T2
        go_wp2_with fail
        refine (likeInts_any (onlyL D cv) (onlyL D cv) _ _ _ HI.out HJ.out HL.out).mono ?_
        rintro e we ⟨rfl, hde⟩
        rw [show eqIB (onlyL D cv) (onlyL D cv) = true from eqIB_yes rfl]
        have HI0 := Lib.hid (fun hc => (HI0.out hc).ext hde.ext)
        have HXC := Lib.hid (HXB.out.trans hde.ext)
        have k0 := hde.ext.cell k0
        have k1 := hde.ext.cell k1
        clear hde HI HJ HL HXB
        by_cases hd : D = 0
        case neg =>
          clear HD HCV HI0
          go_wp2
          go_ret
          exact ⟨rfl, HX.out.trans HXC.out⟩
        case pos =>
          subst hd
          obtain ⟨l2, ⟨a1, a2⟩, a3, a4⟩ := cm_law HD.out.symm
          rw [← HCV.out] at l2 a1 a2 a3 a4
          have HDA := Lib.hid (And.intro a1 a2)
          have HDB := Lib.hid (And.intro a3 a4)
          have hint := HI0.out rfl
          obtain ⟨-, b3, o3, c3, rfl, -⟩ := id hint
          rw [l2] at hint ⊢
          have HINT := Lib.hid hint
          clear hint l2 a1 a2 a3 a4 HI0 HD HCV
          have hxb := (Ext.refl we).alloc (.cells #[.int .i64 p] 2)
          have HI1 := Lib.hid (ints_one (w := we) p 2 rfl)
          have HXS := Lib.hid (HXC.out.trans hxb)
          have HIG := Lib.hid (HINT.out.ext hxb)
          clear hxb
          go_wp2_with fail
          refine (DividesWord_impl LA UA [p] cv _ _ _ _ _ (HA.out.ext HXS.out) (HU.out.ext HXS.out) HI1.out HIG.out).mono ?_
          rintro e wf ⟨rfl, hxf⟩
          rw [HDA.out.1, HDA.out.2]
          have k0 := (((Ext.refl we).alloc (.cells #[.int .i64 p] 2)).trans hxf).cell k0
          have k1 := (((Ext.refl we).alloc (.cells #[.int .i64 p] 2)).trans hxf).cell k1
          have HXF := Lib.hid (HXS.out.trans hxf)
          have HIF := Lib.hid (HIG.out.ext hxf)
          have hxb := (Ext.refl wf).alloc (.cells #[.int .i64 q] 2)
          have HI2 := Lib.hid (ints_one (w := wf) q 2 rfl)
          have HXT := Lib.hid (HXF.out.trans hxb)
          have HIH := Lib.hid (HIF.out.ext hxb)
          clear hxb hxf HXS HIG HI1
          go_wp2_with fail
          refine (DividesWord_impl LA UA [q] cv _ _ _ _ _ (HA.out.ext HXT.out) (HU.out.ext HXT.out) HI2.out HIH.out).mono ?_
          rintro e wg ⟨rfl, hxg⟩
          rw [HDB.out.1, HDB.out.2]
          go_wp2
          go_ret
          exact ⟨rfl, (HX.out.trans HXT.out).trans hxg⟩
end Go.Proofs.YtjfjpngajboidaaGreat
