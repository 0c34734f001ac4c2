/-
  Contracts of CoreQuandle: the reference.
-/
import Derived.Test.YtnkbdnimpcipfaaProg
import Derived.Deep.DeepCutAuto
import Derived.Deep.RegionWith
import Derived.Deep.RegionHeld3
import Derived.Deep.DrawnRows
import Derived.Test.YtnkbdnimpcipfaaBase
import Derived.Test.YtnkbdnimpcipfaaBase2
import Derived.Test.YtnkbdnimpcipfaaRet
import Derived.Test.YtnkbdnimpcipfaaSteps
import Derived.Test.YtnkbdnimpcipfaaGrow
import Derived.Test.YtnkbdnimpcipfaaGrowR
import Derived.Test.YtnkbdnimpcipfaaPure1
import Derived.Test.YtnkbdnimpcipfaaPureOrd
import Derived.Test.YtnkbdnimpcipfaaPureInv
import Derived.Test.YtnkbdnimpcipfaaPureTurn
import Derived.Test.YtnkbdnimpcipfaaW1
import Derived.Test.YtnkbdnimpcipfaaW3
import Derived.Test.YtnkbdnimpcipfaaW6
import Derived.Test.YtnkbdnimpcipfaaW8
import Derived.Test.YtnkbdnimpcipfaaW10
import Derived.Test.YtnkbdnimpcipfaaW11
import Derived.Test.YtnkbdnimpcipfaaW12
import Derived.Test.YtnkbdnimpcipfaaW13
import Derived.Test.YtnkbdnimpcipfaaW20
import Derived.Test.YtnkbdnimpcipfaaW31
import Derived.Test.YtnkbdnimpcipfaaK2
import Derived.Test.YtnkbdnimpcipfaaK4
namespace Go.Proofs.Ytnkbdnimpcipfaa
set_option linter.unusedVariables false
set_option linter.unusedSimpArgs false
open Go.RowKit
attribute [local go_sem ↓] Go.wp_at_zero Go.wp_at_succ

set_option maxRecDepth 100000 in
set_option maxHeartbeats 1000000 in
theorem CoreQuandle_spec (t : List (List Int)) (v : Value) (w : World) (hv : Rows w v t) :
    Calls Try.prog 50 #[.agg #[v]] w (RetG (ifG t (mkT t.length (coreF t)) []) (codeG t) w) := by
  obtain ⟨hlen, b, o, c, rfl, hc⟩ := id hv
  have hx0 := ext_box2 w (.slice (some ⟨b, o, none⟩) t.length c) (.slice none 0 0) 28 59
  have b0 : ((w.alloc (.cells #[.slice (some ⟨b, o, none⟩) t.length c] 28)).alloc (.cells #[.slice none 0 0] 59)).cell? ⟨w.heap.size, 0, none⟩ = some (.slice (some ⟨b, o, none⟩) t.length c) := by simp [go_sem]
  have r0 : ((w.alloc (.cells #[.slice (some ⟨b, o, none⟩) t.length c] 28)).alloc (.cells #[.slice none 0 0] 59)).cell? ⟨w.heap.size + 1, 0, none⟩ = some (.slice none 0 0) := by simp [go_sem]
  have q0 : ((w.alloc (.cells #[.slice (some ⟨b, o, none⟩) t.length c] 28)).alloc (.cells #[.slice none 0 0] 59)).frozen? ⟨w.heap.size + 1, 0, none⟩ = false := by simp [go_sem]
  have z0 : w.heap.size + 2 = ((w.alloc (.cells #[.slice (some ⟨b, o, none⟩) t.length c] 28)).alloc (.cells #[.slice none 0 0] 59)).heap.size := by simp
  cases hg : groupB t with
  | false =>
    rw [ifG_no hg, codeG_no hg]
    go_enter Try.func50, Try.ntmps50
    go_wp2_with fail
    generalize (w.alloc (.cells #[.slice (some ⟨b, o, none⟩) t.length c] 28)).alloc (.cells #[.slice none 0 0] 59) = A at *
    refine (l10Is_any t _ _ (hv.ext hx0)).mono ?_
    rintro e w1 ⟨rfl, hx1⟩
    rw [hg]
    have f1 := hx1.cell r0
    have f2 := hx1.free q0 (by simp only []; omega)
    go_wp2
    refine bodyPost_ret (v := .tuple #[.agg #[.slice none 0 0], .int .i64 1]) (by simp [results, Try.results50, go_sem, f1]) rfl ⟨_, rfl, RowsR.nil _ _, (hx0.trans hx1).setNew (by simp only []; omega) _⟩
  | true =>
    have hG := groupB_iff.1 hg
    have HG := Lib.hid hG
    have h12 := hG.1.2.1
    have HLT := Lib.hid (length_mkT t.length (coreF t))
    have HB := Lib.hid (fun x (hx : x < t.length) => backF_ok hG hx)
    rw [ifG_yes hg, codeG_yes hg]
    clear hG
    go_enter Try.func50, Try.ntmps50
    go_wp2_with fail
    generalize (w.alloc (.cells #[.slice (some ⟨b, o, none⟩) t.length c] 28)).alloc (.cells #[.slice none 0 0] 59) = A at *
    refine (l10Is_any t _ _ (hv.ext hx0)).mono ?_
    rintro e w1 ⟨rfl, hx1⟩
    rw [hg]
    have f1 := hx1.cell r0
    have f2 := hx1.free q0 (by simp only []; omega)
    have b1 := hx1.cell b0
    have zz := hx1.size
    have hX := hx0.trans hx1
    clear hx0 hx1 b0 r0 q0 hg
    go_wp2
    have hxB := ext_box w1 (.slice none 0 0) 59
    have bB := cell_new w1 (.slice none 0 0) 59
    have qB : (w1.alloc (.cells #[.slice none 0 0] 59)).frozen? ⟨w1.heap.size, 0, none⟩ = false := by simp [go_sem]
    have zB : w1.heap.size + 1 = (w1.alloc (.cells #[.slice none 0 0] 59)).heap.size := by simp
    have gB := GrowT.nil 49 (w1.alloc (.cells #[.slice none 0 0] 59)).heap.size (w1.alloc (.cells #[.slice none 0 0] 59))
    have hXB := hX.trans hxB
    generalize w1.alloc (.cells #[.slice none 0 0] 59) = B at *
    go_loopw [5] (fun x wr => ∃ k : Nat, k ≤ t.length ∧ x = .int .i64 k ∧ ∃ v, wr.cell? ⟨w1.heap.size, 0, none⟩ = some v ∧ GrowT 49 B.heap.size wr v ((mkT t.length (coreF t)).take k) ∧ wr.frozen? ⟨w1.heap.size, 0, none⟩ = false ∧ Ext w1 wr ∧ B.heap.size ≤ wr.heap.size) (fun x _ => t.length - (intOf x).toNat)
    case atStart => exact ⟨0, Nat.zero_le _, rfl, _, bB, gB, qB, hxB, Nat.le_refl _⟩
    case round =>
      clear bB qB hxB gB hXB
      obtain ⟨k, hk, rfl, v, bv, hg, qv, hx, zr⟩ := hrel
      obtain ⟨sa, sc, rfl⟩ := hg.slice
      have htl : ((mkT t.length (coreF t)).take k).length = k := by rw [List.length_take, HLT.out]; omega
      rw [htl] at hg bv
      have HTL := Lib.hid htl
      clear htl
      have b2 := hx.cell b1
      have g1 := hx.cell f1
      have g2 := hx.free f2 (by simp only []; omega)
      by_cases hkl : k < t.length
      case neg =>
        have hkk : k = t.length := by omega
        subst hkk
        have htk : (mkT t.length (coreF t)).take t.length = mkT t.length (coreF t) := List.take_of_length_le (by rw [HLT.out]; omega)
        rw [htk] at hg
        go_wp2
        refine bodyPost_ret (v := .tuple #[.agg #[.slice sa t.length sc], .int .i64 0]) (by simp [results, Try.results50, go_sem, g1]) rfl ⟨_, rfl, ?_, (hX.trans hx).setNew (by simp only []; omega) _⟩
        exact (hg.setSl (a := ⟨w.heap.size + 1, 0, none⟩) g1 (by simp only []; omega) _).toR
      case pos =>
        obtain ⟨w2, rfl⟩ : ∃ w2 : World, w2 = wr := ⟨_, rfl⟩
        go_wp2
        have hxa : Ext w2 (w2.alloc (.cells #[] 2)) := (Ext.refl _).alloc _
        have hi0 := GrowI.lit (e := 2) (base := w2.heap.size) (w := w2) (Nat.le_refl _)
        have hrl : (row (mkT t.length (coreF t)) k).length = t.length := by rw [row_mkT _ _ _ hkl, length_partRow]
        have HRL := Lib.hid hrl
        have HO := Lib.hid hg.lt
        clear hrl
        go_loopw [6, 7] (fun v y wr => ∃ j : Nat, j ≤ t.length ∧ y = .int .i64 j ∧ GrowI 2 w2.heap.size wr v ((row (mkT t.length (coreF t)) k).take j) ∧ v ≠ .slice none 0 0 ∧ Ext w2 wr) (fun _ y _ => t.length - (intOf y).toNat)
        case atStart => exact ⟨0, Nat.zero_le _, rfl, hi0, by simp, hxa⟩
        case round =>
          clear hxa hi0
          obtain ⟨j, hj, rfl, hi, hvr, hx2⟩ := hrel
          have HVR := Lib.hid hvr
          clear hvr
          have c2 := hx2.cell b2
          by_cases hjl : j < t.length
          case neg =>
            have hta : (row (mkT t.length (coreF t)) k).take j = row (mkT t.length (coreF t)) k := List.take_of_length_le (by rw [HRL.out]; omega)
            rw [hta] at hi
            obtain ⟨br, cr, rfl, hri, hrb, hrb2⟩ := hi.row HVR.out
            have hgw := hg.ext hx2
            have hne : some br ≠ (Value.slice sa k sc).ownBlock := fun e => by have := HO.out br e.symm; omega
            have bv2 := hx2.cell bv
            have qv2 := hx2.free qv (by simp only []; omega)
            clear hg
            go_wp2_with (at_builtin; refine wpList_append_row rfl _ _ 22 49 rfl Try.underlying22 infoSl B.heap.size _ _ rfl (hgw.ext (ext_box _ _ _)) _ br cr _ rfl (cell_new _ _ _) (hri.ext (ext_box _ _ _)) (by rw [HRL.out]; omega) hne (by rw [HTL.out]; omega) (by have := hx.size; have := hx2.size; simp; omega) ?_)
            intro v' w3 hg3 hgr hv3
            have hx3 : Ext w1 w3 := Ext.grown ((hx.trans hx2).trans (ext_box _ _ _)) hgr (hgw.ext (ext_box _ _ _)).own.choose_spec (by omega)
            have hgr2 := hgr.size
            have bv3 : w3.cell? ⟨w1.heap.size, 0, none⟩ = some (Value.slice sa k sc) := by
              rw [hgr.cell_far _ (by simp; omega) (by intro e; have := HO.out _ e.symm; simp only [] at this; omega)]
              exact (ext_box _ _ _).cell bv2
            have qv3 : w3.frozen? ⟨w1.heap.size, 0, none⟩ = false := by
              rw [hgr.frozen_far _ (by simp; omega) (by intro e; have := HO.out _ e.symm; simp only [] at this; omega)]
              exact (ext_box _ _ _).free qv2 (by simp only []; have := hx2.size; omega)
            clear hgr hne hgw
            obtain ⟨a3, c3, rfl⟩ := hg3.slice
            have hl3 : ((mkT t.length (coreF t)).take k ++ [row (mkT t.length (coreF t)) k]).length = k + 1 := by rw [List.length_append, HTL.out]; rfl
            rw [hl3] at hg3 ⊢
            clear hl3 hv3
            go_wp2
            go_roundw
            case rel => exact ⟨k + 1, by omega, by go_num, _, World.cell?_setCell_same _ _ _ bv3, by rw [take_row _ _ (by rw [HLT.out]; exact hkl)]; exact hg3.setSl bv3 (by simp only []; omega) _, by rw [World.frozen?_setCell]; exact qv3, hx3.setNew (by simp only []; omega) _, by have := hx2.size; have := hgr2; simp at *; omega⟩
            case measure => simp [intOf]; omega
          case pos =>
            have hp := HB.out j hjl
            have bd := HG.out.1.bd (x := k) (y := (backF t j).toNat) hkl (by omega)
            obtain ⟨d1, s1, m1, r1, l1, -⟩ := (hc.ext (hX.trans hx)).get hkl
            obtain ⟨d2, s2, m2, r2, l2, -⟩ := (hc.ext (hX.trans hx)).get (i := (ent t k (backF t j).toNat).toNat) (by omega)
            have e1 := l1.ent (HG.out.1.len hkl) (y := (backF t j).toNat) (by omega)
            have e2 := l2.ent (HG.out.1.len (x := (ent t k (backF t j).toNat).toNat) (by omega)) (y := k) hkl
            rw [HG.out.1.len hkl] at r1
            rw [HG.out.1.len (x := (ent t k (backF t j).toNat).toNat) (by omega)] at r2
            rw [coreF_def] at e2
            have i1 : backF t j < (t.length : Int) := by omega
            have i2 : ent t k (backF t j).toNat < (t.length : Int) := by omega
            have p1 := hx2.cell r1
            have p2 := hx2.cell r2
            have p3 := hx2.cell e1
            have p4 := hx2.cell e2
            have hlj : ((row (mkT t.length (coreF t)) k).take j).length = j := by rw [List.length_take, HRL.out]; omega
            have HLJ := Lib.hid hlj
            clear hlj l1 l2
            go_wp2_with fail
            go_region_held3 (fun w' => w'.cell? ⟨w.heap.size, 0, none⟩ = some (.slice (some ⟨b, o, none⟩) t.length c) ∧ w'.cell? ⟨b, o + k, none⟩ = some (.slice (some ⟨d1, s1, none⟩) t.length m1) ∧ w'.cell? ⟨b, o + (ent t k (backF t j).toNat).toNat, none⟩ = some (.slice (some ⟨d2, s2, none⟩) t.length m2) ∧ w'.cell? ⟨d1, s1 + (backF t j).toNat, none⟩ = some (.int .i64 (ent t k (backF t j).toNat)) ∧ w'.cell? ⟨d2, s2 + k, none⟩ = some (.int .i64 (coreF t k j)))
              ((refine ⟨?_, ?_, ?_, ?_, ?_⟩ <;> (repeat first | (with_reducible assumption) | (with_reducible refine Ext.cell hx3 ?_) |  (with_reducible exact kc_new) | ((with_reducible refine kc_newE ?_); (simp; done)) | (with_reducible apply kc_alloc) | (with_reducible apply kc_drewN) | (with_reducible apply kc_drew) | ((with_reducible refine kc_set ?_ ?_); (first | (simp only []; omega) | (simp; omega) | (simp; done))) | (with_reducible refine kc_same (v := .slice none 0 0) ?_))))
              (first
                | (go_at_call 57; refine (l10Back_any t _ j _ (hv.ext ((hX.trans (hx.trans hx2)).trans (by (repeat first | (with_reducible exact Ext.refl _) | (with_reducible assumption) | (with_reducible apply Ext.drew) | (with_reducible apply kx_drewN) | (with_reducible apply kx_alloc) | ((with_reducible refine kx_set ?_ ?_); (first | (simp only []; omega) | (simp; omega) | (simp; done))) )))) hjl).mono ?_; rintro e w' ⟨rfl, rfl⟩)
                | (refine step_append_int (by rfl) _ _ 49 2 (by rfl) Try.underlying49 infoInt w2.heap.size _ _ (by rfl) (hi.ext (by (repeat first | (with_reducible exact Ext.refl _) | (with_reducible assumption) | (with_reducible apply Ext.drew) | (with_reducible apply kx_drewN) | (with_reducible apply kx_alloc) | ((with_reducible refine kx_set ?_ ?_); (first | (simp only []; omega) | (simp; omega) | (simp; done))) ))) _ _ (by rfl) (by (repeat first | (with_reducible assumption) |  (with_reducible exact kc_new) | ((with_reducible refine kc_newE ?_); (simp; done)) | (with_reducible apply kc_alloc) | (with_reducible apply kc_drewN) | (with_reducible apply kc_drew) | ((with_reducible refine kc_set ?_ ?_); (first | (simp only []; omega) | (simp; omega) | (simp; done))) | (with_reducible refine kc_same (v := .slice none 0 0) ?_))) (by rw [HLJ.out]; omega) (by have := hx2.size; simp; omega) ?_; intro v' w3 hi3 hgr hv3; have hx3 : Ext w2 w3 := Ext.grown (hx2.trans (by (repeat first | (with_reducible exact Ext.refl _) | (with_reducible assumption) | (with_reducible apply Ext.drew) | (with_reducible apply kx_drewN) | (with_reducible apply kx_alloc) | ((with_reducible refine kx_set ?_ ?_); (first | (simp only []; omega) | (simp; omega) | (simp; done))) ))) hgr (hi.ext (by (repeat first | (with_reducible exact Ext.refl _) | (with_reducible assumption) | (with_reducible apply Ext.drew) | (with_reducible apply kx_drewN) | (with_reducible apply kx_alloc) | ((with_reducible refine kx_set ?_ ?_); (first | (simp only []; omega) | (simp; omega) | (simp; done))) ))) (Nat.le_refl _)))
            all_goals
              go_wp2
              go_roundw
              case rel => exact ⟨j + 1, by omega, by go_num, by
                rw [take_ix _ _ (by rw [HRL.out]; exact hjl), row_mkT _ _ _ hkl, ix_partRow _ _ _ _ _ hjl, if_pos hjl]
                rw [row_mkT _ _ _ hkl] at hi3
                exact hi3, hv3, hx3⟩
              case measure => simp [intOf]; omega
end Go.Proofs.Ytnkbdnimpcipfaa
