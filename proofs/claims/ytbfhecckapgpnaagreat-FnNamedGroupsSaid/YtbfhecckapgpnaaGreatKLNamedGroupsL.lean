/-
  The law FnNamedGroups, walked.
-/
import Derived.Test.YtbfhecckapgpnaaGreatProg
import Derived.Deep.DeepCutAuto
import Derived.Deep.RegionWith
import Derived.BigQuiet
import Derived.Test.YtbfhecckapgpnaaGreatKx0
import Derived.Test.YtbfhecckapgpnaaGreatKx1
import Derived.Test.YtbfhecckapgpnaaGreatKx2
import Derived.Test.YtbfhecckapgpnaaGreatKx8
import Derived.Test.YtbfhecckapgpnaaGreatKx9
import Derived.Test.YtbfhecckapgpnaaGreatKx7
import Derived.Test.YtbfhecckapgpnaaGreatKx20
import Derived.Test.YtbfhecckapgpnaaGreatKx22
import Derived.Test.YtbfhecckapgpnaaGreatKx31
import Derived.Test.YtbfhecckapgpnaaGreatKx10
import Derived.Test.YtbfhecckapgpnaaGreatKx12
import Derived.Test.YtbfhecckapgpnaaGreatKx27
import Derived.Test.YtbfhecckapgpnaaGreatKx50
import Derived.Test.YtbfhecckapgpnaaGreatKx52
import Derived.Test.YtbfhecckapgpnaaGreatKx53
import Derived.Test.YtbfhecckapgpnaaGreatKx35
import Derived.Test.YtbfhecckapgpnaaGreatKx32
import Derived.Test.YtbfhecckapgpnaaGreatKx4
import Derived.Test.YtbfhecckapgpnaaGreatKx39
import Derived.Test.YtbfhecckapgpnaaGreatKx11
import Derived.Test.YtbfhecckapgpnaaGreatKx37
namespace Go.Proofs.YtbfhecckapgpnaaGreat
set_option linter.unusedVariables false
set_option linter.unusedSimpArgs false
open Go.RowKit
attribute [local go_sem ↓] Go.wp_at_zero Go.wp_at_succ
open Go.Deep

/-- a table of the list, as it lies -/
theorem TabsR.get {w : World} {a : Option Addr} {n c i : Nat} {ts : List (List (List Int))} (h : TabsR w (.slice a n c) ts) (hi : i < ts.length) (hT : TableOk (tab ts i)) : ∃ b o b1 o1 c1, a = some ⟨b, o, none⟩ ∧ w.cell? ⟨b, o + i, none⟩ = some (.slice (some ⟨b1, o1, none⟩) (tab ts i).length c1) ∧ Rows w (.slice (some ⟨b1, o1, none⟩) (tab ts i).length c1) (tab ts i) := by
  obtain ⟨a', c', e, h⟩ := h
  cases e
  obtain ⟨b, o, rfl, hc⟩ := h (ne_nil_of_lt hi)
  obtain ⟨r, h1, h2⟩ := hc i hi
  have h3 := rowsR_ok h2 hT
  obtain ⟨-, b1, o1, c1, rfl, -⟩ := id h3
  exact ⟨b, o, b1, o1, c1, rfl, h1, h3⟩
/-- a group with a name -/
theorem name_zero {t : List (List Int)} (h : nameC t = 0) : groupB t = true ∧ ∃ m : Nat, m < (namedL t.length).length ∧ nameV t = (m : Int) ∧ isoF [t] [tab (namedL t.length) m] ≠ [] := by
  have hg : groupB t = true := by
    apply Classical.byContradiction
    intro hg
    rw [(name_1 (by simpa using hg)).2] at h
    cases h
  refine ⟨hg, ?_⟩
  cases ho : nameO t (namedL t.length) with
  | none =>
    unfold nameC at h
    rw [if_pos hg, ho, if_pos rfl] at h
    cases h
  | some m =>
    have h2 := ho
    unfold nameO at h2
    rw [List.find?_range_eq_some] at h2
    refine ⟨m, List.mem_range.1 h2.2.1, ?_, by simpa using h2.1⟩
    unfold nameV
    rw [if_pos hg, ho]
    rfl
/-- an isomorphism leads the one table to the other -/
theorem iso_image {t u : List (List Int)} (hU : TableOk u) (hl : u.length = t.length) {p : List Int} (hp : IsoOk t.length [t] [u] p) : imgT t p = u := by
  refine (ImgTo.done (T := u) ⟨hl, fun i hi => by rw [hU.len (by omega), hl], fun a b ha hb _ => ?_⟩ (isoOk_plain.2 ⟨hp.1, hp.2.1⟩)).symm
  have := hp.2.2 0 (by simp) a ha b hb
  rw [tab_one, tab_one] at this
  exact this.symm

theorem giso_call {t u : List (List Int)} {v y : Value} {P : List Int} {w : World} (hv : Rows w v t) (hy : Rows w y u) (h : gisoV t u = P ∧ gisoC t u = 0) (w' : World) (hx : Ext w w') :
    Calls Tryz.prog 22 #[.agg #[v], .agg #[y]] w' (NewIC P 0 w') := by
  have := GroupIsomorphism_impl t u v y w' (hv.ext hx) (hy.ext hx)
  rwa [h.1, h.2] at this

set_option maxRecDepth 100000 in
set_option maxHeartbeats 4000000 in
theorem lawNamedGroupsL (w : World) (bs : List Int) (v : Value) (hv : BytesR w v bs) :
    Calls Tryz.prog 4 #[v] w fun e w' => e = .returned (.bool true) ∧ Ext w w' := by
  obtain ⟨va, vc, rfl, -⟩ := id hv
  go_enter Tryz.func4, Tryz.ntmps4
  go_wp2_with fail
  refine (big_any va bs.length vc w).mono ?_
  rintro e w1 ⟨rfl, rfl⟩
  by_cases hbig : 4096 < (bs.length : Int)
  case pos =>
    go_wp2
    go_ret
    exact ⟨rfl, Ext.refl _⟩
  case neg =>
    have HV := Lib.hid hv
    have HB := Lib.hid hbig
    clear hv
    go_wp2_with fail
    refine (DrawNameOfGroup_any bs _ _ HV.out (by omega)).mono ?_
    rintro e w1 ⟨v1, T, rfl, hr, hl, hX⟩
    obtain ⟨b, o, c, rfl⟩ := hr.shape
    clear hbig
    have hxg := ext_box w1 (.slice (some ⟨b, o, none⟩) T.length c) 26
    have bg := cell_new w1 (.slice (some ⟨b, o, none⟩) T.length c) 26
    replace hX := hX.trans hxg
    replace hr := hr.ext hxg
    obtain ⟨A, hA⟩ : ∃ A, A = nameV T := ⟨_, rfl⟩
    obtain ⟨D, hD⟩ : ∃ D, D = nameC T := ⟨_, rfl⟩
    have HA := Lib.hid hA
    have HD := Lib.hid hD
    clear hA hD
    go_wp2_with fail
    generalize (w1.alloc (.cells #[.slice (some ⟨b, o, none⟩) T.length c] 26)) = w2 at *
    clear hxg
    have hc := NameOfGroup_impl T _ _ hr
    rw [← HA.out, ← HD.out] at hc
    refine hc.mono ?_
    clear hc
    rintro e w3 ⟨rfl, hx⟩
    replace hX := hX.trans hx
    replace hr := hr.ext hx
    replace bg := hx.cell bg
    clear hx
    go_wp2_with fail
    have hc := NameOfGroup_spec T _ _ hr
    rw [← HA.out, ← HD.out] at hc
    refine hc.mono ?_
    clear hc
    rintro e w4 ⟨rfl, hx⟩
    replace hX := hX.trans hx
    replace hr := hr.ext hx
    replace bg := hx.cell bg
    clear hx
    go_upto_if 44 with (fail)
    go_cut [] (fun wx => Ext w4 wx)
    case first =>
      by_cases hD0 : D = 0
      case neg =>
        have hDb : (D == 0) = false := by simpa using hD0
        go_wp2
        go_meet
        case rel => exact Ext.refl _
      case pos =>
        subst hD0
        obtain ⟨hg, m, hm, hmA, hiso⟩ := name_zero HD.out.symm
        obtain rfl : A = (m : Int) := HA.out.trans hmA
        have hG := groupB_iff.1 hg
        have h12 := hG.1.2.1
        have h1 := hG.1.1
        obtain ⟨g1, g2⟩ := namedL_ok h1 h12 hm
        obtain ⟨NL, hNL⟩ : ∃ NL, NL = namedL T.length := ⟨_, rfl⟩
        have hnin := named_in (n := T.length) h1 h12
        rw [← hNL] at g1 g2 hm hiso hnin
        have HNIN := Lib.hid hnin
        obtain ⟨U, hUe⟩ : ∃ U, U = tab NL m := ⟨_, rfl⟩
        have HUE := Lib.hid hUe
        rw [← hUe] at g1 g2 hiso
        have hU := groupB_iff.1 g1
        have hI := isoF_ok g2 h1 hiso
        have hgv := giso_3 ⟨hg, g1⟩ hiso
        have him := iso_image hU.1 g2 hI
        have hq := eqTB_yes (rfl : U = U)
        obtain ⟨P, hP⟩ : ∃ P, P = isoF [T] [U] := ⟨_, rfl⟩
        rw [← hP] at hI hgv him
        have HG := Lib.hid hG
        have HU := Lib.hid hU
        have HI := Lib.hid hI
        have HM := Lib.hid him
        have HGV := Lib.hid hgv
        have HUL := Lib.hid g2
        have HQE := Lib.hid hq
        clear hq hNL hnin hUe
        clear hg hmA hiso g1 hG hU hI hP hgv him g2
        go_wp2_with fail
        have hc := NamedGroups_impl (T.length : Int) w4
        rw [HNIN.out.1, HNIN.out.2] at hc
        refine hc.mono ?_
        clear hc
        rintro e w5 ⟨lv, rfl, lo, hx⟩
        have HL := Lib.hid lo.toR
        obtain ⟨la, lc, rfl, -⟩ := id lo
        obtain ⟨lb, loo, b1, o1, c1, rfl, e1, r1⟩ := TabsR.get HL.out hm (by rw [← HUE.out]; exact HU.out.1)
        rw [← HUE.out] at e1 r1
        replace hr := hr.ext hx
        replace bg := hx.cell bg
        have hmb : ¬ (m : Int) < 0 := by omega
        have HX5 := Lib.hid hx
        clear lo hx
        go_upto_region 12 with (fail)
        have HR1 := Lib.hid r1
        have HRT := Lib.hid hr
        go_cut [10, 11] (fun p q wx => ∃ two : Int, q = .int .i64 two ∧ (two != 0) = false ∧ ∃ pa pc, p = .slice pa P.length pc ∧ IntsR wx (.slice pa P.length pc) P ∧ Ext w5 wx)
        case first =>
          go_region_with (first
            | (go_at_call 22; refine (giso_call HRT.out HR1.out HGV.out _ (Ext.drew (Ext.refl _))).mono ?_; rintro e wA ⟨iv, rfl, io, hxA⟩; obtain ⟨ia, ic, rfl, -⟩ := io.2; have HIO := Lib.hid io.toR; clear io))
          all_goals
            go_wp2_with fail
            go_meet
            case rel => exact ⟨0, rfl, rfl, ia, ic, rfl, HIO.out, (Ext.drew (Ext.refl _)).trans hxA⟩
        obtain ⟨two, rfl, htwo, pa, pc, rfl, hpi, hxp⟩ := hcut
        have bgA := hxp.cell bg
        have e1A := hxp.cell e1
        have HPI := Lib.hid hpi
        have HTK := Lib.hid (show TableOk T from (show GroupOk T from HG.out).1)
        have HXP := Lib.hid hxp
        have HPN := Lib.hid (show IsoOk T.length [] [] P from isoOk_plain.2 ⟨HI.out.1, HI.out.2.1⟩)
        have HPT := Lib.hid (show Ints wc (.slice pa P.length pc) P by
          obtain ⟨a', c', e', h'⟩ := HPI.out
          cases e'
          obtain ⟨b', o', rfl, h2⟩ := h' (ne_nil_of_lt (k := 0) (by rw [HI.out.1]; exact h1))
          exact ⟨by rw [HI.out.1]; omega, b', o', pc, rfl, h2⟩)
        have HMS := Lib.hid HU.out.1.small
        have HQQ := Lib.hid (show eqTB (imgT T P) U = true by rw [HM.out]; exact HQE.out)
        clear hpi hxp
        go_wp2
        have hfa : ∀ W : World, (Instr.fieldAt 26 (.pointer (some ⟨lb, loo + m, none⟩)) 0).run Tryz.prog W = .ok (.pointer (some ⟨lb, loo + m, none⟩)) W := fun _ => rfl
        go_region_held3 (fun w' => w'.cell? ⟨w1.heap.size, 0, none⟩ = some (.slice (some ⟨b, o, none⟩) T.length c) ∧ w'.cell? ⟨lb, loo + m, none⟩ = some (.slice (some ⟨b1, o1, none⟩) U.length c1))
          ((refine ⟨?_, ?_⟩ <;> (first | (focus ((repeat first | (with_reducible assumption) | (with_reducible refine Ext.cell hxC ?_) | (with_reducible refine Ext.cell hxB ?_) |  (with_reducible exact kc_new) | ((with_reducible refine kc_newE ?_); (simp; done)) | ((with_reducible refine kc_newEa ?_); (simp; done)) | ((with_reducible refine kc_newEb ?_); (simp; done)) | (with_reducible apply kc_alloc) | (with_reducible apply kc_drewN) | (with_reducible apply kc_drew) | ((with_reducible refine kc_set ?_ ?_); (first | (simp only []; omega) | (simp; omega) | (focus (simp; done)))) | ((with_reducible refine kc_set2 ?_ ?_); (focus (simp; done))) | (with_reducible refine kc_same (v := .slice none 0 0) ?_)); done)) | (focus ((repeat first | (with_reducible assumption) | (with_reducible refine Ext.cell hxB ?_) |  (with_reducible exact kc_new) | ((with_reducible refine kc_newE ?_); (simp; done)) | ((with_reducible refine kc_newEa ?_); (simp; done)) | ((with_reducible refine kc_newEb ?_); (simp; done)) | (with_reducible apply kc_alloc) | (with_reducible apply kc_drewN) | (with_reducible apply kc_drew) | ((with_reducible refine kc_set ?_ ?_); (first | (simp only []; omega) | (simp; omega) | (focus (simp; done)))) | ((with_reducible refine kc_set2 ?_ ?_); (focus (simp; done))) | (with_reducible refine kc_same (v := .slice none 0 0) ?_)); done)))))
          (first
            | (go_at_call 9; (with_reducible refine (same9_any _ _ _ _ _ (hoB.toR) ((HR1.out.ext HXP.out).toR.ext (by (repeat first | (with_reducible exact Ext.refl _) | (with_reducible assumption) | (with_reducible apply Ext.drew) | (with_reducible apply kx_drewN) | (with_reducible apply kx_alloc) | ((with_reducible refine kx_set ?_ ?_); (first | (simp only []; omega) | (simp; omega) | (focus (simp; done)))) | (with_reducible refine Ext.trans ?_ hxB) ))) (by rw [HM.out]; exact HMS.out)).mono ?_); rintro e wC ⟨rfl, hdC⟩; rw [HQQ.out]; have hxC := hdC.ext)
            | (go_at_call 23; (with_reducible refine (image9_any T P _ _ _ ((HRT.out.ext HXP.out).ext (by (repeat first | (with_reducible exact Ext.refl _) | (with_reducible assumption) | (with_reducible apply Ext.drew) | (with_reducible apply kx_drewN) | (with_reducible apply kx_alloc) | ((with_reducible refine kx_set ?_ ?_); (first | (simp only []; omega) | (simp; omega) | (focus (simp; done)))) ))) (HPT.out.ext (by (repeat first | (with_reducible exact Ext.refl _) | (with_reducible assumption) | (with_reducible apply Ext.drew) | (with_reducible apply kx_drewN) | (with_reducible apply kx_alloc) | ((with_reducible refine kx_set ?_ ?_); (first | (simp only []; omega) | (simp; omega) | (focus (simp; done)))) ))) HTK.out HPN.out).mono ?_); rintro e wB ⟨ib, ic, rfl, hoO, hxB⟩; have hoB := (hoO.rowsAt (by rw [HM.out]; exact HMS.out)).rows (by rw [HM.out]; exact HMS.out.1) ic))
        all_goals
          go_wp2
          go_meet
          case rel => exact (HX5.out.trans HXP.out).trans ((Ext.drew (Ext.refl _)).trans (hxB.trans hxC))
    replace hX := hX.trans hcut
    replace hr := hr.ext hcut
    clear hcut bg hr
    have hbig : ¬ 4096 < (bs.length : Int) := by have := HB.out; omega
    go_wp2_with fail
    refine (DrawNamedGroups_any bs _ _ (HV.out.ext hX) (by omega)).mono ?_
    rintro e w6 ⟨n, rfl, n1, n2, hx⟩
    replace hX := hX.trans hx
    clear hx hbig
    by_cases hn : 1 ≤ n ∧ n ≤ 12
    case neg =>
      go_wp2_with fail
      have hc := NamedGroups_impl n w6
      rw [(named_out hn).1, (named_out hn).2] at hc
      refine hc.mono ?_
      clear hc
      rintro e w7 ⟨lv, rfl, lo, hx⟩
      obtain ⟨la, lc, rfl, -⟩ := id lo
      replace hX := hX.trans hx
      clear lo hx
      go_wp2_with fail
      have hc := NamedGroups_spec n w7
      rw [(named_out hn).1, (named_out hn).2] at hc
      refine hc.mono ?_
      clear hc
      rintro e w8 ⟨mv, rfl, mo, hx⟩
      replace hX := hX.trans hx
      clear mo hx
      go_wp2
      go_ret
      exact ⟨rfl, hX⟩
    case pos =>
      obtain ⟨N, rfl⟩ := Int.eq_ofNat_of_zero_le (show 0 ≤ n by omega)
      have N1 : 1 ≤ N := by omega
      have N12 : N ≤ 12 := by omega
      have hlc : ∀ (W : World), (W.alloc (.cells #[.int .i64 0, .int .i64 1, .int .i64 1, .int .i64 1, .int .i64 2, .int .i64 1, .int .i64 2, .int .i64 1, .int .i64 5, .int .i64 2, .int .i64 2, .int .i64 1, .int .i64 5] 3)).cell? ⟨W.heap.size, N, none⟩ = some (.int .i64 ((namedL N).length : Nat)) := fun W => by
        have h : N = 1 ∨ N = 2 ∨ N = 3 ∨ N = 4 ∨ N = 5 ∨ N = 6 ∨ N = 7 ∨ N = 8 ∨ N = 9 ∨ N = 10 ∨ N = 11 ∨ N = 12 := by omega
        rcases h with rfl | rfl | rfl | rfl | rfl | rfl | rfl | rfl | rfl | rfl | rfl | rfl <;> simp [go_sem, namedL]
      have hns := fun i (hi : i < (namedL N).length) => named_self N1 N12 hi
      have hno := fun i (hi : i < (namedL N).length) => namedL_ok N1 N12 hi
      have hnin := named_in N1 N12
      have hnl5 := namedL_len0 N
      obtain ⟨NL, hNL⟩ : ∃ NL, NL = namedL N := ⟨_, rfl⟩
      rw [← hNL] at hlc hns hno hnin hnl5
      have HLC := Lib.hid hlc
      have HNS := Lib.hid hns
      have HNO := Lib.hid hno
      have HNIN := Lib.hid hnin
      have hNL5 : NL.length ≤ 5 := hnl5.2
      clear hlc hns hno hnin hnl5 hNL
      go_wp2_with fail
      have hc := NamedGroups_impl (N : Int) w6
      rw [HNIN.out.1, HNIN.out.2] at hc
      refine hc.mono ?_
      clear hc
      rintro e w7 ⟨lv, rfl, lo, hx⟩
      have HL := Lib.hid lo.toR
      obtain ⟨la, lc, rfl, -⟩ := id lo
      replace hX := hX.trans hx
      clear lo hx
      go_wp2_with fail
      have hc := NamedGroups_spec (N : Int) w7
      rw [HNIN.out.1, HNIN.out.2] at hc
      refine hc.mono ?_
      clear hc
      rintro e w8 ⟨mv, rfl, mo, hx⟩
      replace hX := hX.trans hx
      replace HL := Lib.hid (HL.out.ext hx)
      clear mo hx
      have hxk : Ext w8 (w8.alloc (.cells #[.int .i64 0, .int .i64 1, .int .i64 1, .int .i64 1, .int .i64 2, .int .i64 1, .int .i64 2, .int .i64 1, .int .i64 5, .int .i64 2, .int .i64 2, .int .i64 1, .int .i64 5] 3)) := (Ext.refl _).alloc _
      have hcell := HLC.out w8
      have HXK := Lib.hid hxk
      clear hxk
      have hNc : (N : Int) < 13 := by omega
      go_wp2
      generalize (w8.alloc (.cells #[.int .i64 0, .int .i64 1, .int .i64 1, .int .i64 1, .int .i64 2, .int .i64 1, .int .i64 2, .int .i64 1, .int .i64 5, .int .i64 2, .int .i64 2, .int .i64 1, .int .i64 5] 3)) = w9 at *
      go_loopw [18] (fun i wr => ∃ k : Nat, k ≤ NL.length ∧ i = .int .i64 k ∧ Ext w9 wr) (fun i _ => NL.length - (intOf i).toNat)
      case atStart => exact ⟨0, Nat.zero_le _, rfl, Ext.refl _⟩
      case round =>
        obtain ⟨k, hk, rfl, hx⟩ := hrel
        by_cases hlt : k < NL.length
        case pos =>
          obtain ⟨lb, lo, b1, o1, c1, rfl, e1, r1⟩ := TabsR.get (HL.out.ext (HXK.out.trans hx)) hlt (groupB_iff.1 (HNO.out k hlt).1).1
          obtain ⟨s1, s2⟩ := HNS.out k hlt
          have hgk := (HNO.out k hlt).1
          obtain ⟨U, hU⟩ : ∃ U, U = tab NL k := ⟨_, rfl⟩
          rw [← hU] at e1 r1 s1 s2 hgk
          have HX := Lib.hid hx
          clear hx hU
          go_wp2_with fail
          have hc := NameOfGroup_impl U _ _ r1
          rw [s1, s2] at hc
          refine hc.mono ?_
          clear hc
          rintro e w10 ⟨rfl, hx⟩
          have e1' := hx.cell e1
          go_wp2_with fail
          refine (IsGroup_impl U _ _ (r1.ext hx)).mono ?_
          rintro e w11 ⟨rfl, hx2⟩
          rw [hgk]
          go_wp2
          go_roundw
          case rel => exact ⟨k + 1, by omega, by go_num, (HX.out.trans hx).trans hx2⟩
          case measure => simp [intOf]; omega
        case neg =>
          go_wp2
          go_ret
          exact ⟨rfl, hX.trans (HXK.out.trans hx)⟩
end Go.Proofs.YtbfhecckapgpnaaGreat
