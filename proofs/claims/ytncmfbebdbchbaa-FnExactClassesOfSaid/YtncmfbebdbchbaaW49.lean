/-
  Contracts of ClassesOf: reference and program.
-/
import Derived.Test.YtncmfbebdbchbaaProg
import Derived.Deep.DeepCutAuto
import Derived.Deep.RegionWith
import Derived.Deep.RegionHeld3
import Derived.Deep.DrawnRows
import Derived.StillTailTactics
import Derived.Deep.RegionLaw
import Derived.Test.YtncmfbebdbchbaaBase
import Derived.Test.YtncmfbebdbchbaaBase2
import Derived.Test.YtncmfbebdbchbaaRet
import Derived.Test.YtncmfbebdbchbaaSteps
import Derived.Test.YtncmfbebdbchbaaGrow
import Derived.Test.YtncmfbebdbchbaaGrowR
import Derived.Test.YtncmfbebdbchbaaPure1
import Derived.Test.YtncmfbebdbchbaaPureOrd
import Derived.Test.YtncmfbebdbchbaaPureInv
import Derived.Test.YtncmfbebdbchbaaPureTurn
import Derived.Test.YtncmfbebdbchbaaPureConj
import Derived.Test.YtncmfbebdbchbaaPureSet
import Derived.Test.YtncmfbebdbchbaaPureNorm
import Derived.Test.YtncmfbebdbchbaaPureNum
import Derived.Test.YtncmfbebdbchbaaPureCls
import Derived.Test.YtncmfbebdbchbaaW1
import Derived.Test.YtncmfbebdbchbaaW3
import Derived.Test.YtncmfbebdbchbaaW6
import Derived.Test.YtncmfbebdbchbaaW8
import Derived.Test.YtncmfbebdbchbaaW11
import Derived.Test.YtncmfbebdbchbaaW12
import Derived.Test.YtncmfbebdbchbaaW13
import Derived.Test.YtncmfbebdbchbaaW20
import Derived.Test.YtncmfbebdbchbaaW33
import Derived.Test.YtncmfbebdbchbaaW41
import Derived.Test.YtncmfbebdbchbaaW48
import Derived.Test.YtncmfbebdbchbaaK3
namespace Go.Proofs.Ytncmfbebdbchbaa
set_option linter.unusedVariables false
set_option linter.unusedSimpArgs false
open Go.RowKit
attribute [local go_sem ↓] Go.wp_at_zero Go.wp_at_succ

theorem GrowI.one {e base : Nat} {w : World} {x : Int} (hb : base ≤ w.heap.size) : GrowI e base (w.alloc (.cells #[.int .i64 x] e)) (.slice (some ⟨w.heap.size, 0, none⟩) 1 1) [x] :=
  ⟨by simp, .inr ⟨w.heap.size, 1, #[.int .i64 x], rfl, hb, heap_alloc_new w _, Nat.le_refl _, by decide, by simp, by simp⟩⟩
/-- while row k is looked at: the first j entries are done -/
@[irreducible] def lstM (t : List (List Int)) (k j : Nat) : List Int := mkL t.length (fun y => if y < j then lstF t (k + 1) y else lstF t k y)
theorem length_lstM (t k j) : (lstM t k j).length = t.length := by unfold lstM; exact length_mkL _ _
theorem ix_lstM (t : List (List Int)) (k j y : Nat) (h : y < t.length) : ix (lstM t k j) y = if y < j then lstF t (k + 1) y else lstF t k y := by unfold lstM; exact ix_mkL _ _ _ h
theorem lstM_zero (t : List (List Int)) (k : Nat) : lstM t k 0 = lstL t k := ix_ext (by rw [length_lstM, length_lstL]) fun i hi => by
  rw [length_lstM] at hi
  rw [ix_lstM _ _ _ _ hi, ix_lstL _ _ _ hi]; simp
theorem lstM_all (t : List (List Int)) (k : Nat) : lstM t k t.length = lstL t (k + 1) := ix_ext (by rw [length_lstM, length_lstL]) fun i hi => by
  rw [length_lstM] at hi
  rw [ix_lstM _ _ _ _ hi, ix_lstL _ _ _ hi, if_pos hi]
theorem idL_lst (t : List (List Int)) : idL t.length = lstL t 0 := ix_ext (by rw [length_idL, length_lstL]) fun i hi => by
  rw [length_idL] at hi
  rw [ix_idL _ _ hi, ix_lstL _ _ _ hi, lstF_zero]

set_option maxRecDepth 100000 in
set_option maxHeartbeats 1000000 in
theorem ClassesOf_impl (t : List (List Int)) (v : Value) (w : World) (hv : Rows w v t) :
    Calls Try.prog 36 #[.agg #[v]] w (NewIC (ifG t (clsL t) []) (codeG t) w) := by
  obtain ⟨hlen, b, o, c, rfl, hc⟩ := id hv
  have hX := ext_box w (.slice (some ⟨b, o, none⟩) t.length c) 29
  have k0 := cell_new w (.slice (some ⟨b, o, none⟩) t.length c) 29
  cases hg : groupB t with
  | false =>
    rw [ifG_no hg, codeG_no hg]
    go_enter Try.func36, Try.ntmps36
    go_wp2_with fail
    refine (IsGroup_impl t _ _ (hv.ext hX)).mono ?_
    rintro e wn ⟨rfl, hx⟩
    rw [hg]
    replace hX := hX.trans hx
    replace k0 := hx.cell k0
    clear hx
    go_wp2
    go_ret2
    exact ⟨_, rfl, OwnIV.nil _ _ _, hX⟩
  | true =>
    rw [ifG_yes hg, codeG_yes hg]
    have HG := Lib.hid (groupB_iff.1 hg)
    have h12 := HG.out.1.2.1
    go_enter Try.func36, Try.ntmps36
    go_wp2_with fail
    refine (IsGroup_impl t _ _ (hv.ext hX)).mono ?_
    rintro e wn ⟨rfl, hx⟩
    rw [hg]
    replace hX := hX.trans hx
    replace k0 := hx.cell k0
    clear hx
    clear hg
    have HB := Lib.hid (fun x (hx : x < t.length) => backF_ok HG.out hx)
    obtain ⟨w1, rfl⟩ : ∃ z : World, z = wn := ⟨_, rfl⟩
    have zX := hX.size
    go_wp2_with fail
    go_region_held3 (fun w' => w'.cell? ⟨w.heap.size, 0, none⟩ = some (.slice (some ⟨b, o, none⟩) t.length c))
      ((repeat first | (with_reducible assumption) | (with_reducible refine Ext.cell hx2 ?_) |  (with_reducible exact kc_new) | ((with_reducible refine kc_newE ?_); (simp; done)) | ((with_reducible refine kc_newEa ?_); (simp; done)) | ((with_reducible refine kc_newEb ?_); (simp; done)) | (with_reducible apply kc_alloc) | (with_reducible apply kc_drewN) | (with_reducible apply kc_drew) | ((with_reducible refine kc_set ?_ ?_); (first | (simp only []; omega) | (simp; omega) | (focus (simp; done)))) | ((with_reducible refine kc_set2 ?_ ?_); (focus (simp; done))) | (with_reducible refine kc_same (v := .slice none 0 0) ?_)))
      ((go_at_call 62; refine (groupInverses_any t _ _ (hv.ext (hX.trans (by (repeat first | (with_reducible exact Ext.refl _) | (with_reducible assumption) | (with_reducible apply Ext.drew) | (with_reducible apply kx_drewN) | (with_reducible apply kx_alloc) | ((with_reducible refine kx_set ?_ ?_); (first | (simp only []; omega) | (simp; omega) | (focus (simp; done)))) | (with_reducible refine Ext.trans ?_ hx2) ))))).mono ?_; rintro e w2 ⟨b2, c2, rfl, hi2, hx2⟩))
    all_goals
      have hX2 := hX.trans (Ext.trans (Ext.drew (Ext.refl _)) hx2)
      have z2 := hX2.size
      have HI2 := Lib.hid hi2
      clear hi2
      go_wp2_with fail
      refine (identity_any t.length _ (by omega)).mono ?_
      rintro e w3 ⟨b3, c3, rfl, ho3, hx3⟩
      rw [idL_lst] at ho3
      have hX3 := hX2.trans hx3
      have hA := ho3.2.2.1
      have hF := ho3.2.2.2
      have hb3 := ho3.1
      have hb3' := ho3.2.1
      rw [length_lstL] at hF
      clear ho3
      go_wp2
      go_loopw [22] (fun i wr => ∃ k : Nat, k ≤ t.length ∧ i = .int .i64 k ∧ IntsAt wr b3 0 (lstL t k) ∧ FreeAt wr b3 0 t.length ∧ Ext w2 wr ∧ b3 < wr.heap.size) (fun i _ => t.length - (intOf i).toNat)
      case atStart => exact ⟨0, Nat.zero_le _, rfl, hA, hF, hx3, hb3'⟩
      case round =>
        clear hA hF hx3 hb3'
        obtain ⟨k, hk, rfl, hA, hF, hx, hb4⟩ := hrel
        have HA := Lib.hid hA
        have HF := Lib.hid hF
        clear hA hF
        by_cases hkl : k < t.length
        case neg =>
          have hkk : k = t.length := by omega
          subst hkk
          have hl4 : (numL (lstL t t.length)).length = t.length := by rw [length_numL, length_lstL]
          have hc4 : numL (lstL t t.length) = clsL t := by rw [clsL_def, minL_def]
          have H4 := Lib.hid hl4
          have HC4 := Lib.hid hc4
          have HLL := Lib.hid (length_lstL t t.length)
          have zz := (hX2.trans hx).size
          clear hl4 hc4
          go_wp2_with fail
          refine (numbered_any (lstL t t.length) _ _ ⟨by rw [HLL.out]; omega, b3, 0, c3, by rw [HLL.out], HA.out⟩).mono ?_
          rintro e w5 ⟨b5, c5, rfl, ho5, hx5⟩
          rw [HLL.out]
          go_wp2
          go_ret2
          have ho6 := (ho5.iv (by rw [H4.out]; omega) c5).mono zz (Nat.le_refl _)
          rw [H4.out, HC4.out] at ho6
          exact ⟨_, rfl, ho6, (hX2.trans hx).trans hx5⟩
        case pos =>
          obtain ⟨w4, rfl⟩ : ∃ z : World, z = wr := ⟨_, rfl⟩
          have hp := HB.out k hkl
          have i5 : backF t k < (t.length : Int) := by omega
          have hp0 := hp.1
          clear hp
          go_wp2
          go_loopw [27] (fun i wr => ∃ j : Nat, j ≤ t.length ∧ i = .int .i64 j ∧ IntsAt wr b3 0 (lstM t k j) ∧ FreeAt wr b3 0 t.length ∧ Ext w2 wr ∧ b3 < wr.heap.size) (fun i _ => t.length - (intOf i).toNat)
          case atStart => exact ⟨0, Nat.zero_le _, rfl, by rw [lstM_zero]; exact HA.out, HF.out, hx, hb4⟩
          case round =>
            clear hx hb4
            obtain ⟨j, hj, rfl, hA, hF, hx, hb4⟩ := hrel
            have HA := Lib.hid hA
            have HF := Lib.hid hF
            clear hA hF
            by_cases hjl : j < t.length
            case neg =>
              have hjj : j = t.length := by omega
              subst hjj
              go_wp2
              go_roundw
              case rel => exact ⟨k + 1, by omega, by go_num, by rw [← lstM_all]; exact HA.out, HF.out, hx, hb4⟩
              case measure => simp [intOf]; omega
            case pos =>
              obtain ⟨d1, s1, m1, r1, l1⟩ := (hc.ext (hX2.trans hx)).read HG.out.1 rfl hkl
              obtain ⟨e1, i1, i2⟩ := l1 j hjl
              obtain ⟨d2, s2, m2, r2, l2⟩ := (hc.ext (hX2.trans hx)).read HG.out.1 rfl (x := (ent t k j).toNat) (by omega)
              obtain ⟨e2, i3, i4⟩ := l2 (backF t k).toNat (by omega)
              rw [conjF_def] at e2 i3 i4
              have ib := (HI2.out.ext hx) k (by rw [length_backs]; exact hkl)
              rw [ix_backs _ _ hkl, Nat.zero_add] at ib
              have el := HA.out j (by rw [length_lstM]; exact hjl)
              have fl := HF.out j hjl
              rw [ix_lstM _ _ _ _ hjl, if_neg (Nat.lt_irrefl j), Nat.zero_add] at el
              rw [Nat.zero_add] at fl
              have HS := Lib.hid (lstF_succ t k j)
              clear l1 l2
              by_cases hm : conjF t k j < lstF t k j
              all_goals
                go_wp2_with fail
                go_still_tail 24, (by kernel_rfl)
                change wpList _ _ _ _ _ wr.drew
                have z1 := kc_drew el
                have z2' : wr.drew.frozen? ⟨b3, j, none⟩ = false := fl
                have hxd := hx.drew
                have hAd := Lib.hid (ki_drew HA.out)
                have hFd := Lib.hid (show FreeAt wr.drew b3 0 t.length from HF.out)
                have hbd : b3 < wr.drew.heap.size := hb4
                generalize wr.drew = w6 at *
                all_goals
                  go_wp2
                  go_roundw
                  case rel => exact ⟨j + 1, by omega, by go_num, hAd.out.set0 j _ (by rw [length_lstM]; exact hjl) (by rw [length_lstM, length_lstM]) (fun i hi hi2 => by
                    rw [length_lstM] at hi2
                    rw [ix_lstM _ _ _ _ hi2, ix_lstM _ _ _ _ hi2]
                    by_cases h : i < j
                    · rw [if_pos h, if_pos (by omega)]
                    · rw [if_neg h, if_neg (by omega)]) (by rw [ix_lstM _ _ _ _ hjl, if_pos (by omega), HS.out]; omega), hFd.out.set _ _, hxd.setNew (by simp only []; omega) _, by simpa using hbd⟩
                  case measure => simp [intOf]; omega

set_option maxRecDepth 100000 in
set_option maxHeartbeats 1000000 in
theorem l01Orbit_any (t : List (List Int)) (v : Value) (x : Nat) (w : World) (hv : Rows w v (mkT t.length (conjF t))) (hG : GroupOk t) (hx : x < t.length) :
    Calls Try.prog 118 #[v, .int .i64 x] w fun e w' => ∃ b c O, e = .returned (.slice (some ⟨b, 0, none⟩) O.length c) ∧ IsOrb t x O ∧ IntsAt w' b 0 O ∧ w.heap.size ≤ b ∧ Ext w w' := by
  obtain ⟨hlen, b, o, c, rfl, hc⟩ := id hv
  have h12 := hG.1.2.1
  have HG := Lib.hid hG
  have HLT := Lib.hid (length_mkT t.length (conjF t))
  rw [HLT.out]
  have HCB := Lib.hid (fun x y (hx : x < t.length) (hy : y < t.length) => conjF_bd hG hx hy)
  clear hG
  go_enter Try.func118, Try.ntmps118
  go_wp2
  have hx0 := ext_box w (.int .i64 x) 2
  have hg0 := GrowI.one (e := 2) (base := w.heap.size) (w := w) (x := (x : Int)) (Nat.le_refl _)
  go_loopw [5, 6] (fun s i wr => ∃ k O, k ≤ O.length ∧ i = .int .i64 (k : Nat) ∧ GrowI 2 w.heap.size wr s O ∧ s ≠ .slice none 0 0 ∧ OrbOk t x O ∧ OrbTo t O k ∧ Ext w wr) (fun _ i _ => (t.length + 1) - (intOf i).toNat)
  case atStart => exact ⟨0, [(x : Int)], Nat.zero_le _, rfl, hg0, by simp, OrbOk.one hx, OrbTo.zero _ _, hx0⟩
  case round =>
    clear hx0 hg0
    obtain ⟨k, O, hk, rfl, hg, hs, hO, hto, hxw⟩ := hrel
    have HO := Lib.hid hO
    have HTO := Lib.hid hto
    have hOl := hO.len
    have HS := Lib.hid hs
    clear hO hto hs
    by_cases hkl : k < O.length
    case neg =>
      obtain ⟨br, cr, rfl, hri, hrb, -⟩ := hg.row HS.out
      go_wp2
      go_ret
      have hkk : k = O.length := by omega
      subst hkk
      exact ⟨br, cr, O, rfl, isOrb_of HG.out HO.out hx HTO.out, hri, hrb, hxw⟩
    case pos =>
      obtain ⟨y, ey, hy, cy⟩ := HO.out.mem k hkl
      have HY := Lib.hid (And.intro ey cy)
      clear ey cy
      obtain ⟨w2, rfl⟩ : ∃ z : World, z = wr := ⟨_, rfl⟩
      obtain ⟨br, cr, rfl, -, -, -⟩ := hg.row HS.out
      go_wp2
      go_loopw [5, 7] (fun s i wr => ∃ j P, j ≤ t.length ∧ i = .int .i64 (j : Nat) ∧ GrowI 2 w.heap.size wr s P ∧ s ≠ .slice none 0 0 ∧ OrbOk t x P ∧ OrbTo t P k ∧ k < P.length ∧ ix P k = (y : Int) ∧ OrbRow t P y j ∧ Ext w wr) (fun _ i _ => t.length - (intOf i).toNat)
      case atStart => exact ⟨0, O, Nat.zero_le _, rfl, hg, HS.out, HO.out, HTO.out, hkl, HY.out.1, OrbRow.zero _ _ _, hxw⟩
      case round =>
        clear hg hxw
        obtain ⟨j, P, hj, rfl, hg, hs, hP, hto, hkP, eP, hrow, hxw⟩ := hrel
        have HP := Lib.hid hP
        have HTO2 := Lib.hid hto
        have HS2 := Lib.hid hs
        have HEP := Lib.hid eP
        have HROW := Lib.hid hrow
        have hPl := hP.len
        clear hP hto hs eP hrow
        by_cases hjl : j < t.length
        case neg =>
          have hjj : j = t.length := by omega
          subst hjj
          go_wp2
          go_roundw
          case rel => exact ⟨k + 1, P, by omega, by go_num, hg, HS2.out, HP.out, HTO2.out.succ (by rw [HEP.out, Int.toNat_natCast]; exact HROW.out), hxw⟩
          case measure => simp [intOf]; omega
        case pos =>
          obtain ⟨br, cr, rfl, hri, hrb, hrb2⟩ := hg.row HS2.out
          have HLR := Lib.hid (length_row_mkT t.length (conjF t) j hjl)
          obtain ⟨d1, s1, m1, r1, l1, -⟩ := (hc.ext hxw).get (i := j) (by rw [HLT.out]; exact hjl)
          rw [HLR.out] at r1
          have e1 := l1.ent HLR.out hy
          rw [ent_mkT _ _ _ _ hjl hy] at e1
          have e2 := hri k hkP
          rw [HEP.out, Nat.zero_add] at e2
          have bd := HCB.out j y hjl hy
          have ecj : conjF t j y = ((cj t j y : Nat) : Int) := by unfold cj; omega
          have HEC := Lib.hid ecj
          have HPI := Lib.hid (hri.ints (by omega) cr)
          clear l1 ecj
          have hkP' : (k : Int) < (P.length : Int) := by omega
          cases hb : hasB P (conjF t j y) with
          | true =>
            go_wp2_with fail
            go_quiet ((go_at_call 127; exact Calls.quiet_of_same ((l01Has_any P _ _ _ (HPI.out.ext ((Ext.refl _).drewN _))).mono fun _ _ ⟨h1, h2⟩ => ⟨by rw [hb] at h1; exact h1, h2.symm⟩)))
            go_wp2
            go_roundw
            case rel => exact ⟨j + 1, P, by omega, by go_num, hg.ext ((Ext.refl _).drewN _), HS2.out, HP.out, HTO2.out, hkP, HEP.out, HROW.out.old (by rw [← HEC.out]; exact hb), hxw.drewN _⟩
            case measure => simp [intOf]; omega
          | false =>
            have HN := Lib.hid (show hasB P ((cj t j y : Nat) : Int) = false by rw [← HEC.out]; exact hb)
            go_wp2_with fail
            go_quiet ((go_at_call 127; exact Calls.quiet_of_same ((l01Has_any P _ _ _ (HPI.out.ext ((Ext.refl _).drewN _))).mono fun _ _ ⟨h1, h2⟩ => ⟨by rw [hb] at h1; exact h1, h2.symm⟩)))
            have q1 := kc_drewN (n := nq) r1
            have q2 := kc_drewN (n := nq) e1
            have q3 := kc_drewN (n := nq) e2
            have hgq := hg.ext ((Ext.refl wr).drewN nq)
            have hxq := hxw.drewN nq
            generalize wr.drewN nq = w5 at *
            have hzq := hxq.size
            go_wp2_with fail
            go_region_law
              ((refine step_append_int (by rfl) _ _ 50 2 (by rfl) Try.underlying50 infoInt w.heap.size _ _ (by rfl) (hgq.ext (by (repeat first | (with_reducible exact Ext.refl _) | (with_reducible assumption) | (with_reducible apply Ext.drew) | (with_reducible apply kx_drewN) | (with_reducible apply kx_alloc) | ((with_reducible refine kx_set ?_ ?_); (first | (simp only []; omega) | (simp; omega) | (focus (simp; done)))) ))) _ _ (by rfl) (by (repeat first | (with_reducible assumption) |  (with_reducible exact kc_new) | ((with_reducible refine kc_newE ?_); (simp; done)) | ((with_reducible refine kc_newEa ?_); (simp; done)) | ((with_reducible refine kc_newEb ?_); (simp; done)) | (with_reducible apply kc_alloc) | (with_reducible apply kc_drewN) | (with_reducible apply kc_drew) | ((with_reducible refine kc_set ?_ ?_); (first | (simp only []; omega) | (simp; omega) | (focus (simp; done)))) | ((with_reducible refine kc_set2 ?_ ?_); (focus (simp; done))) | (with_reducible refine kc_same (v := .slice none 0 0) ?_))) (by omega) (by simp; omega) ?_; intro v' w3 hi3 hgr hv3; have hx3 : Ext w w3 := Ext.grown (hxq.trans (by (repeat first | (with_reducible exact Ext.refl _) | (with_reducible assumption) | (with_reducible apply Ext.drew) | (with_reducible apply kx_drewN) | (with_reducible apply kx_alloc) | ((with_reducible refine kx_set ?_ ?_); (first | (simp only []; omega) | (simp; omega) | (focus (simp; done)))) ))) hgr (hgq.ext (by (repeat first | (with_reducible exact Ext.refl _) | (with_reducible assumption) | (with_reducible apply Ext.drew) | (with_reducible apply kx_drewN) | (with_reducible apply kx_alloc) | ((with_reducible refine kx_set ?_ ?_); (first | (simp only []; omega) | (simp; omega) | (focus (simp; done)))) ))) (Nat.le_refl _)))
            all_goals
              go_wp2
              go_roundw
              case rel => exact ⟨j + 1, P ++ [((cj t j y : Nat) : Int)], by omega, by go_num, by rw [← HEC.out]; exact hi3, hv3, HP.out.add HG.out hy HY.out.2 hjl HN.out, HTO2.out.more (by omega), by simp; omega, by rw [ix_append_left hkP]; exact HEP.out, HROW.out.new, hx3⟩
              case measure => simp [intOf]; omega

@[irreducible] def orbL (t : List (List Int)) (x : Nat) : List Int := mkL t.length (orbF t x)
theorem length_orbL (t x) : (orbL t x).length = t.length := by unfold orbL; exact length_mkL _ _
theorem ix_orbL (t : List (List Int)) (x y : Nat) (h : y < t.length) : ix (orbL t x) y = orbF t x y := by unfold orbL; exact ix_mkL _ _ _ h
@[irreducible] def orbML (t : List (List Int)) (x : Nat) (O : List Int) (m : Nat) : List Int := mkL t.length (orbM t x O m)
theorem length_orbML (t x O m) : (orbML t x O m).length = t.length := by unfold orbML; exact length_mkL _ _
theorem ix_orbML (t : List (List Int)) (x : Nat) (O : List Int) (m y : Nat) (h : y < t.length) : ix (orbML t x O m) y = orbM t x O m y := by unfold orbML; exact ix_mkL _ _ _ h
theorem orbL_zero (t : List (List Int)) : List.replicate t.length (-1 : Int) = orbL t 0 := ix_ext (by rw [length_orbL]; simp) fun i hi => by
  have hi' : i < t.length := by simpa using hi
  rw [ix_orbL _ _ _ hi', orbF_zero, ix_eq]; simp [List.getD, hi']
theorem orbL_old {t : List (List Int)} {x : Nat} (hx : x < t.length) (h : hasB (seenTo (minL t) x) (minC t x) = true) : orbL t (x + 1) = orbL t x := ix_ext (by rw [length_orbL, length_orbL]) fun i hi => by
  rw [length_orbL] at hi
  rw [ix_orbL _ _ _ hi, ix_orbL _ _ _ hi, orbF_old hx h]
theorem orbML_zero (t : List (List Int)) (x : Nat) (O : List Int) : orbML t x O 0 = orbL t x := ix_ext (by rw [length_orbL, length_orbML]) fun i hi => by
  rw [length_orbML] at hi
  rw [ix_orbL _ _ _ hi, ix_orbML _ _ _ _ _ hi, orbM_zero]
theorem orbML_done {t : List (List Int)} {x : Nat} {O : List Int} (hx : x < t.length) (hO : IsOrb t x O) (hn : hasB (seenTo (minL t) x) (minC t x) = false) : orbML t x O O.length = orbL t (x + 1) := ix_ext (by rw [length_orbL, length_orbML]) fun i hi => by
  rw [length_orbML] at hi
  rw [ix_orbL _ _ _ hi, ix_orbML _ _ _ _ _ hi, orbM_done hx hi hO hn]
theorem orbL_done (t : List (List Int)) : orbL t t.length = clsL t := ix_ext (by rw [length_orbL, length_clsL]) fun i hi => by
  rw [length_orbL] at hi
  rw [ix_orbL _ _ _ hi, orbF_done hi]

set_option maxRecDepth 100000 in
set_option maxHeartbeats 1000000 in
theorem l01Orbits_any (t : List (List Int)) (v : Value) (w : World) (hv : Rows w v (mkT t.length (conjF t))) (hG : GroupOk t) :
    Calls Try.prog 81 #[.int .i64 t.length, v] w fun e w' => ∃ b c, e = .returned (.slice (some ⟨b, 0, none⟩) t.length c) ∧ IntsAt w' b 0 (clsL t) ∧ Ext w w' := by
  have h12 := hG.1.2.1
  have HG := Lib.hid hG
  clear hG
  go_enter Try.func81, Try.ntmps81
  go_wp2
  have hx0 : Ext w (w.alloc (.cells #[] 2)) := (Ext.refl _).alloc _
  have hg0 := GrowI.lit (e := 2) (base := w.heap.size) (w := w) (Nat.le_refl _)
  go_loopw [5, 6] (fun s i wr => ∃ k : Nat, k ≤ t.length ∧ i = .int .i64 k ∧ GrowI 2 w.heap.size wr s (List.replicate k (-1 : Int)) ∧ s ≠ .slice none 0 0 ∧ Ext w wr) (fun _ i _ => t.length - (intOf i).toNat)
  case atStart => exact ⟨0, Nat.zero_le _, rfl, hg0, by simp, hx0⟩
  case round =>
    clear hx0 hg0
    obtain ⟨k, hk, rfl, hg, hs, hx⟩ := hrel
    have HS := Lib.hid hs
    clear hs
    by_cases hkl : k < t.length
    case pos =>
      go_wp2_with (at_builtin; refine wpList_append_int rfl _ _ 50 2 rfl Try.underlying50 infoInt w.heap.size _ _ rfl (hg.alloc _) _ _ rfl (cell_new _ _ _) (by simp; omega) (by have := hx.size; simp; omega) ?_)
      intro v' w3 hi3 hgr hv3
      have hx3 : Ext w w3 := (hx.trans (ext_box _ _ _)).grown hgr (hg.alloc _) (Nat.le_refl _)
      clear hgr
      go_wp2
      go_roundw
      case rel => exact ⟨k + 1, by omega, by go_num, by rw [List.replicate_succ']; exact hi3, hv3, hx3⟩
      case measure => simp [intOf]; omega
    case neg =>
      have hkk : k = t.length := by omega
      subst hkk
      obtain ⟨b, c, rfl, hb1, hb2, hA, hF⟩ := hg.own HS.out
      rw [orbL_zero] at hA hF
      rw [length_orbL] at hF
      have hz := hx.size
      obtain ⟨w3, rfl⟩ : ∃ z : World, z = wr := ⟨_, rfl⟩
      clear hg
      rw [List.length_replicate]
      go_wp2
      go_loopw [7, 8] (fun s i wr => ∃ k : Nat, k ≤ t.length ∧ i = .int .i64 k ∧ s = .int .i64 ((seenTo (minL t) k).length : Nat) ∧ IntsAt wr b 0 (orbL t k) ∧ FreeAt wr b 0 t.length ∧ Ext w wr ∧ b < wr.heap.size) (fun _ i _ => t.length - (intOf i).toNat)
      case atStart => exact ⟨0, Nat.zero_le _, rfl, rfl, hA, hF, hx, hb2⟩
      case round =>
        clear hA hF hx hb2 hkl
        obtain ⟨k, hk, rfl, rfl, hA, hF, hx, hb2⟩ := hrel
        have HA := Lib.hid hA
        have HF := Lib.hid hF
        have hsn := seenTo_len (minL t) k
        clear hA hF
        by_cases hkl : k < t.length
        case neg =>
          have hkk : k = t.length := by omega
          subst hkk
          go_wp2
          go_ret
          exact ⟨b, c, rfl, by rw [← orbL_done]; exact HA.out, hx⟩
        case pos =>
          have el := HA.out k (by rw [length_orbL]; exact hkl)
          rw [ix_orbL _ _ _ hkl, Nat.zero_add] at el
          cases hs : hasB (seenTo (minL t) k) (minC t k) with
          | true =>
            have h0 := (orbF_nonneg (t := t) (x := k) (y := k)).2 hs
            have HSE := Lib.hid (seenTo_old (l := minL t) (i := k) (by rw [ix_minL _ _ hkl]; exact hs))
            go_wp2
            go_roundw
            case rel => exact ⟨k + 1, by omega, by go_num, by rw [HSE.out], by rw [orbL_old hkl hs]; exact HA.out, HF.out, hx, hb2⟩
            case measure => simp [intOf]; omega
          | false =>
            have h0 : orbF t k k < 0 := by
              apply Int.not_le.1
              intro h; rw [(orbF_nonneg (t := t) (x := k) (y := k)).1 h] at hs; cases hs
            have HSE := Lib.hid (seenTo_new (l := minL t) (i := k) (by rw [ix_minL _ _ hkl]; exact hs))
            obtain ⟨w4, rfl⟩ : ∃ z : World, z = wr := ⟨_, rfl⟩
            go_wp2_with fail
            refine (l01Orbit_any t _ k _ (hv.ext hx) HG.out hkl).mono ?_
            rintro e w5 ⟨bO, cO, O, rfl, hO, hAO, hbO, hx5⟩
            have HO := Lib.hid hO
            have HAO := Lib.hid hAO
            have hOl := hO.1.len
            have hA5 := Lib.hid (HA.out.ext hx5)
            have hF5 := Lib.hid (HF.out.block (hx5.block b hb2))
            have hx6 := hx.trans hx5
            have hz5 := hx5.size
            clear hO hAO
            go_wp2
            go_loopw [10] (fun i wr => ∃ m : Nat, m ≤ O.length ∧ i = .int .i64 m ∧ IntsAt wr b 0 (orbML t k O m) ∧ FreeAt wr b 0 t.length ∧ IntsAt wr bO 0 O ∧ Ext w wr ∧ b < wr.heap.size) (fun i _ => O.length - (intOf i).toNat)
            case atStart => exact ⟨0, Nat.zero_le _, rfl, by rw [orbML_zero]; exact hA5.out, hF5.out, HAO.out, hx6, by omega⟩
            case round =>
              clear hx6 el
              obtain ⟨m, hm, rfl, hA, hF, hAO, hx, hb3⟩ := hrel
              have HA := Lib.hid hA
              have HF := Lib.hid hF
              have HAO := Lib.hid hAO
              clear hA hF hAO
              by_cases hml : m < O.length
              case neg =>
                have hmm : m = O.length := by omega
                subst hmm
                go_wp2
                go_roundw
                case rel => exact ⟨k + 1, by omega, by go_num, by rw [HSE.out]; simp, by rw [← orbML_done hkl HO.out hs]; exact HA.out, HF.out, hx, hb3⟩
                case measure => simp [intOf]; omega
              case pos =>
                obtain ⟨z, ez, hz', -⟩ := HO.out.1.mem m hml
                have e1 := HAO.out m hml
                rw [ez, Nat.zero_add] at e1
                have EZ := Lib.hid ez
                have e2 := HA.out z (by rw [length_orbML]; exact hz')
                have e3 := HF.out z hz'
                rw [Nat.zero_add] at e2 e3
                generalize ix (orbML t k O m) z = q at e2
                clear ez
                go_wp2
                go_roundw
                case rel => exact ⟨m + 1, by omega, by go_num, HA.out.set0 z _ (by rw [length_orbML]; exact hz') (by rw [length_orbML, length_orbML]) (fun i hi hi2 => by
                  rw [length_orbML] at hi2
                  rw [ix_orbML _ _ _ _ _ hi2, ix_orbML _ _ _ _ _ hi2, orbM_succ hml, EZ.out, if_neg (by omega)]) (by rw [ix_orbML _ _ _ _ _ hz', orbM_succ hml, EZ.out, if_pos rfl]), HF.out.set _ _, ki_set (by simp only []; omega) HAO.out, hx.setNew (by simp only []; omega) _, by simpa using hb3⟩
                case measure => simp [intOf]; omega

set_option maxRecDepth 100000 in
set_option maxHeartbeats 1000000 in
theorem ClassesOf_spec (t : List (List Int)) (v : Value) (w : World) (hv : Rows w v t) :
    Calls Try.prog 35 #[.agg #[v]] w (RetIC (ifG t (clsL t) []) (codeG t) w) := by
  obtain ⟨hlen, b, o, c, rfl, hc⟩ := id hv
  have hX := ext_box w (.slice (some ⟨b, o, none⟩) t.length c) 29
  have k0 := cell_new w (.slice (some ⟨b, o, none⟩) t.length c) 29
  cases hg : groupB t with
  | false =>
    rw [ifG_no hg, codeG_no hg]
    go_enter Try.func35, Try.ntmps35
    go_wp2_with fail
    refine (l10Is_any t _ _ (hv.ext hX)).mono ?_
    rintro e wn ⟨rfl, hx⟩
    rw [hg]
    replace hX := hX.trans hx
    replace k0 := hx.cell k0
    clear hx
    go_wp2
    go_ret2
    exact ⟨_, rfl, IntsR.nil _ _, hX⟩
  | true =>
    rw [ifG_yes hg, codeG_yes hg]
    have HG := Lib.hid (groupB_iff.1 hg)
    have h12 := HG.out.1.2.1
    go_enter Try.func35, Try.ntmps35
    go_wp2_with fail
    refine (l10Is_any t _ _ (hv.ext hX)).mono ?_
    rintro e wn ⟨rfl, hx⟩
    rw [hg]
    replace hX := hX.trans hx
    replace k0 := hx.cell k0
    clear hx
    clear hg
    have HCL := Lib.hid (length_clsL t)
    obtain ⟨w1, rfl⟩ : ∃ z : World, z = wn := ⟨_, rfl⟩
    go_wp2_with fail
    go_region_held3 (fun w' => w'.cell? ⟨w.heap.size, 0, none⟩ = some (.slice (some ⟨b, o, none⟩) t.length c))
      ((repeat first | (with_reducible assumption) | (with_reducible refine Ext.cell hx3 ?_) | (with_reducible refine Ext.cell hx2 ?_) |  (with_reducible exact kc_new) | ((with_reducible refine kc_newE ?_); (simp; done)) | ((with_reducible refine kc_newEa ?_); (simp; done)) | ((with_reducible refine kc_newEb ?_); (simp; done)) | (with_reducible apply kc_alloc) | (with_reducible apply kc_drewN) | (with_reducible apply kc_drew) | ((with_reducible refine kc_set ?_ ?_); (first | (simp only []; omega) | (simp; omega) | (focus (simp; done)))) | ((with_reducible refine kc_set2 ?_ ?_); (focus (simp; done))) | (with_reducible refine kc_same (v := .slice none 0 0) ?_)))
      (first
        | (go_at_call 82; refine (l10Inner_any t _ _ (hv.ext (hX.trans (by (repeat first | (with_reducible exact Ext.refl _) | (with_reducible assumption) | (with_reducible apply Ext.drew) | (with_reducible apply kx_drewN) | (with_reducible apply kx_alloc) | ((with_reducible refine kx_set ?_ ?_); (first | (simp only []; omega) | (simp; omega) | (focus (simp; done)))) | (with_reducible refine Ext.trans ?_ hx2) )))) HG.out).mono ?_; rintro e w2 ⟨v2, rfl, hr2, hx2⟩)
        | (go_at_call 81; refine (l01Orbits_any t _ _ (hr2.ext (by (repeat first | (with_reducible exact Ext.refl _) | (with_reducible assumption) | (with_reducible apply Ext.drew) | (with_reducible apply kx_drewN) | (with_reducible apply kx_alloc) | ((with_reducible refine kx_set ?_ ?_); (first | (simp only []; omega) | (simp; omega) | (focus (simp; done)))) ))) HG.out).mono ?_; rintro e w3 ⟨b3, c3, rfl, hi3, hx3⟩))
    all_goals
      go_wp2
      go_ret2
      exact ⟨.slice (some ⟨b3, 0, none⟩) t.length c3, rfl, ⟨some ⟨b3, 0, none⟩, c3, by rw [HCL.out], fun _ => ⟨b3, 0, rfl, hi3⟩⟩, hX.trans (Ext.trans (Ext.trans (Ext.drew (Ext.refl _)) hx2) hx3)⟩

end Go.Proofs.Ytncmfbebdbchbaa
