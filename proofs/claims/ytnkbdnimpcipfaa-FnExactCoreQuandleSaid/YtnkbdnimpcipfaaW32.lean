/-
  Contracts of CoreQuandle: the program.
-/
import Derived.Test.YtnkbdnimpcipfaaProg
import Derived.Deep.DeepCutAuto
import Derived.Deep.RegionWith
import Derived.Deep.RegionHeld3
import Derived.Deep.DrawnRows
import Derived.Test.YtnkbdnimpcipfaaBase
import Derived.Test.YtnkbdnimpcipfaaBase2
import Derived.Test.YtnkbdnimpcipfaaRet
import Derived.Test.YtnkbdnimpcipfaaSteps
import Derived.Test.YtnkbdnimpcipfaaGrow
import Derived.Test.YtnkbdnimpcipfaaPure1
import Derived.Test.YtnkbdnimpcipfaaPureOrd
import Derived.Test.YtnkbdnimpcipfaaPureInv
import Derived.Test.YtnkbdnimpcipfaaPureTurn
import Derived.Test.YtnkbdnimpcipfaaW1
import Derived.Test.YtnkbdnimpcipfaaW3
import Derived.Test.YtnkbdnimpcipfaaW6
import Derived.Test.YtnkbdnimpcipfaaW8
import Derived.Test.YtnkbdnimpcipfaaW10
import Derived.Test.YtnkbdnimpcipfaaW11
import Derived.Test.YtnkbdnimpcipfaaW12
import Derived.Test.YtnkbdnimpcipfaaW13
import Derived.Test.YtnkbdnimpcipfaaW20
import Derived.Test.YtnkbdnimpcipfaaW31
import Derived.Test.YtnkbdnimpcipfaaK2
import Derived.Test.YtnkbdnimpcipfaaK4
namespace Go.Proofs.Ytnkbdnimpcipfaa
set_option linter.unusedVariables false
set_option linter.unusedSimpArgs false
open Go.RowKit
attribute [local go_sem ↓] Go.wp_at_zero Go.wp_at_succ

/-- two boxes: a table and its inverses -/
def TwoBox (t : List (List Int)) (v : Value) (w : World) (p q : Value) (wx : World) : Prop := ∃ B C b c, p = .pointer (some ⟨B, 0, none⟩) ∧ q = .pointer (some ⟨C, 0, none⟩) ∧
  wx.cell? ⟨B, 0, none⟩ = some v ∧ wx.cell? ⟨C, 0, none⟩ = some (.slice (some ⟨b, 0, none⟩) t.length c) ∧ IntsAt wx b 0 (backs t) ∧ Ext w wx

set_option maxRecDepth 100000 in
set_option maxHeartbeats 1000000 in
theorem CoreQuandle_impl (t : List (List Int)) (v : Value) (w : World) (hv : Rows w v t) :
    Calls Try.prog 51 #[.agg #[v]] w (NewGC (ifG t (mkT t.length (coreF t)) []) (codeG t) w) := by
  obtain ⟨hlen, b, o, c, rfl, hc⟩ := id hv
  have hx0 := ext_box2 w (.slice (some ⟨b, o, none⟩) t.length c) (.slice none 0 0) 28 59
  have b0 : ((w.alloc (.cells #[.slice (some ⟨b, o, none⟩) t.length c] 28)).alloc (.cells #[.slice none 0 0] 59)).cell? ⟨w.heap.size, 0, none⟩ = some (.slice (some ⟨b, o, none⟩) t.length c) := by simp [go_sem]
  have r0 : ((w.alloc (.cells #[.slice (some ⟨b, o, none⟩) t.length c] 28)).alloc (.cells #[.slice none 0 0] 59)).cell? ⟨w.heap.size + 1, 0, none⟩ = some (.slice none 0 0) := by simp [go_sem]
  have q0 : ((w.alloc (.cells #[.slice (some ⟨b, o, none⟩) t.length c] 28)).alloc (.cells #[.slice none 0 0] 59)).frozen? ⟨w.heap.size + 1, 0, none⟩ = false := by simp [go_sem]
  have z0 : w.heap.size + 2 = ((w.alloc (.cells #[.slice (some ⟨b, o, none⟩) t.length c] 28)).alloc (.cells #[.slice none 0 0] 59)).heap.size := by simp
  cases hg : groupB t with
  | false =>
    rw [ifG_no hg, codeG_no hg]
    go_enter Try.func51, Try.ntmps51
    go_wp2_with fail
    generalize (w.alloc (.cells #[.slice (some ⟨b, o, none⟩) t.length c] 28)).alloc (.cells #[.slice none 0 0] 59) = A at *
    refine (IsGroup_impl t _ _ (hv.ext hx0)).mono ?_
    rintro e w1 ⟨rfl, hx1⟩
    rw [hg]
    have f1 := hx1.cell r0
    have f2 := hx1.free q0 (by simp only []; omega)
    go_wp2
    refine bodyPost_ret (v := .tuple #[.agg #[.slice none 0 0], .int .i64 1]) (by simp [results, Try.results51, go_sem, f1]) rfl ⟨_, rfl, OwnV.nil _ _ _, (hx0.trans hx1).setNew (by simp only []; omega) _⟩
  | true =>
    have hG := groupB_iff.1 hg
    have HG := Lib.hid hG
    have h12 := hG.1.2.1
    rw [ifG_yes hg, codeG_yes hg]
    clear hG
    go_enter Try.func51, Try.ntmps51
    go_wp2_with fail
    generalize (w.alloc (.cells #[.slice (some ⟨b, o, none⟩) t.length c] 28)).alloc (.cells #[.slice none 0 0] 59) = A at *
    refine (IsGroup_impl t _ _ (hv.ext hx0)).mono ?_
    rintro e w1 ⟨rfl, hx1⟩
    rw [hg]
    have f1 := hx1.cell r0
    have f2 := hx1.free q0 (by simp only []; omega)
    have b1 := hx1.cell b0
    have zz := hx1.size
    have hX := hx0.trans hx1
    have zd : w1.drew.heap.size = w1.heap.size := rfl
    clear hx0 hx1 b0 r0 q0 hg
    go_wp2
    have n0 : ¬ w.heap.size = w1.heap.size := by omega
    have n1 : ¬ w.heap.size = w1.heap.size + 1 := by omega
    have n2 : w.heap.size < w1.heap.size := by omega
    go_cut [4, 5] (fun p q wx => TwoBox t (.slice (some ⟨b, o, none⟩) t.length c) w1 p q wx)
    case first =>
      go_region_held3 (fun w' => w'.cell? ⟨w.heap.size, 0, none⟩ = some (.slice (some ⟨b, o, none⟩) t.length c)) ((repeat first | (with_reducible assumption) |  (with_reducible exact kc_new) | ((with_reducible refine kc_newE ?_); (simp; done)) | (with_reducible apply kc_alloc) | (with_reducible apply kc_drewN) | (with_reducible apply kc_drew) | ((with_reducible refine kc_set ?_ ?_); (first | (simp only []; omega) | (simp; omega) | (simp; done))) | (with_reducible refine kc_same (v := .slice none 0 0) ?_))) ((go_at_call 61; refine (groupInverses_any t _ _ (hv.ext (hX.trans (by (repeat first | (with_reducible exact Ext.refl _) | (with_reducible assumption) | (with_reducible apply Ext.drew) | (with_reducible apply kx_drewN) | (with_reducible apply kx_alloc) | ((with_reducible refine kx_set ?_ ?_); (first | (simp only []; omega) | (simp; omega) | (simp; done))) ))))).mono ?_; rintro e w2 ⟨b2, c2, rfl, hi2, hx2⟩; have hs2 : w2.cell? ⟨w.heap.size, 0, none⟩ = some (.slice (some ⟨b, o, none⟩) t.length c) := hx2.cell (by (repeat first | (with_reducible assumption) |  (with_reducible exact kc_new) | ((with_reducible refine kc_newE ?_); (simp; done)) | (with_reducible apply kc_alloc) | (with_reducible apply kc_drewN) | (with_reducible apply kc_drew) | ((with_reducible refine kc_set ?_ ?_); (first | (simp only []; omega) | (simp; omega) | (simp; done))) | (with_reducible refine kc_same (v := .slice none 0 0) ?_))); obtain ⟨hc2, hf2⟩ := bcell hx2; have hz2 := hx2.size; (try simp at hz2); (have hl9 : w.heap.size < w2.heap.size := by omega); (have hn9 : ¬ w.heap.size = w2.heap.size := by omega); (try have hl0 : w1.heap.size < w2.heap.size := by omega); (try have hl1 : w1.heap.size + 1 < w2.heap.size := by omega)))
      all_goals
        have IS := hi2
        go_wp2_with fail
        go_meet
        case rel =>
          refine ⟨_, _, b2, c2, rfl, rfl, ?_, ?_, ?_, ?_⟩
          · (repeat first | (with_reducible assumption) | (with_reducible refine Ext.cell hx2 ?_) |  (with_reducible exact kc_new) | ((with_reducible refine kc_newE ?_); (simp; done)) | (with_reducible apply kc_alloc) | (with_reducible apply kc_drewN) | (with_reducible apply kc_drew) | ((with_reducible refine kc_set ?_ ?_); (first | (simp only []; omega) | (simp; omega) | (simp; done))) | (with_reducible refine kc_same (v := .slice none 0 0) ?_))
          · (repeat first | (with_reducible assumption) | (with_reducible refine Ext.cell hx2 ?_) |  (with_reducible exact kc_new) | ((with_reducible refine kc_newE ?_); (simp; done)) | (with_reducible apply kc_alloc) | (with_reducible apply kc_drewN) | (with_reducible apply kc_drew) | ((with_reducible refine kc_set ?_ ?_); (first | (simp only []; omega) | (simp; omega) | (simp; done))) | (with_reducible refine kc_same (v := .slice none 0 0) ?_))
          · (repeat first | exact hi2 | (with_reducible apply ki_alloc) | (with_reducible apply ki_drew) | ((with_reducible refine ki_setNil ?_ ?_); focus (repeat first | (with_reducible assumption) | (with_reducible refine Ext.cell hx2 ?_) |  (with_reducible exact kc_new) | ((with_reducible refine kc_newE ?_); (simp; done)) | (with_reducible apply kc_alloc) | (with_reducible apply kc_drewN) | (with_reducible apply kc_drew) | ((with_reducible refine kc_set ?_ ?_); (first | (simp only []; omega) | (simp; omega) | (simp; done))) | (with_reducible refine kc_same (v := .slice none 0 0) ?_)); done))
          · (repeat first | (with_reducible exact Ext.refl _) | (with_reducible assumption) | (with_reducible apply Ext.drew) | (with_reducible apply kx_drewN) | (with_reducible apply kx_alloc) | ((with_reducible refine kx_set ?_ ?_); (first | (simp only []; omega) | (simp; omega) | (simp; done))) | (with_reducible refine Ext.trans ?_ hx2) )
    case rest =>
      obtain ⟨B, C, b2, c2, rfl, rfl, g1, g2, hi2, hx2⟩ := hcut
      obtain ⟨w2, rfl⟩ : ∃ z : World, z = wc := ⟨_, rfl⟩
      have f3 := hx2.cell f1
      have f4 := hx2.free f2 (by simp only []; omega)
      have hX2 := hX.trans hx2
      have z2 := hx2.size
      go_wp2_with fail
      refine (rackBy_any t.length (coreF t) 83 #[.pointer (some ⟨B, 0, none⟩), .pointer (some ⟨C, 0, none⟩)] _ (by omega) callCoreQuandle1 (fun w3 x y h3 hx hy => by
        rw [app22]
        exact coreQuandle1_any t _ b2 c2 x y B C w3 (h3.cell g1) (h3.cell g2) (hv.ext (hX2.trans h3)) (hi2.ext h3) HG.out hx hy)).mono ?_
      rintro e w3 ⟨b3, c3, rfl, ho3, hx3⟩
      have f5 := hx3.cell f3
      have f6 := hx3.free f4 (by simp only []; omega)
      have z3 := hx3.size
      go_wp2
      refine bodyPost_ret (v := .tuple #[.agg #[.slice (some ⟨b3, 0, none⟩) (mkT t.length (coreF t)).length c3], .int .i64 0]) (by simp [results, Try.results51, go_sem, f5]) rfl ⟨_, rfl, ?_, (hX2.trans hx3).setNew (by simp only []; omega) _⟩
      have hs := (ho3.setOther (a := ⟨w.heap.size + 1, 0, none⟩) (.inl (by simp only []; omega)) (.slice (some ⟨b3, 0, none⟩) (mkT t.length (coreF t)).length c3)).mono (lo' := w.heap.size) (hi' := w3.heap.size) (by omega) (Nat.le_refl _)
      simpa using hs.v (small_mkT (by omega) _) c3
end Go.Proofs.Ytnkbdnimpcipfaa
