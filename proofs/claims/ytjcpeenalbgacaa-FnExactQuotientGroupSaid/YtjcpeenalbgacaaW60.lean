/-
  Contracts of QuotientGroup: reference and program (exported).
-/
import Derived.Test.YtjcpeenalbgacaaProg
import Derived.Deep.DeepCutAuto
import Derived.Deep.RegionWith
import Derived.Deep.RegionHeld3
import Derived.Deep.DrawnRows
import Derived.Test.YtjcpeenalbgacaaBase
import Derived.Test.YtjcpeenalbgacaaBase2
import Derived.Test.YtjcpeenalbgacaaRet
import Derived.Test.YtjcpeenalbgacaaSteps
import Derived.Test.YtjcpeenalbgacaaGrow
import Derived.Test.YtjcpeenalbgacaaGrowR
import Derived.Test.YtjcpeenalbgacaaPure1
import Derived.Test.YtjcpeenalbgacaaPureOrd
import Derived.Test.YtjcpeenalbgacaaPureInv
import Derived.Test.YtjcpeenalbgacaaPureTurn
import Derived.Test.YtjcpeenalbgacaaPureConj
import Derived.Test.YtjcpeenalbgacaaPureSet
import Derived.Test.YtjcpeenalbgacaaPureNorm
import Derived.Test.YtjcpeenalbgacaaPureNum
import Derived.Test.YtjcpeenalbgacaaPureQuo
import Derived.Test.YtjcpeenalbgacaaW1
import Derived.Test.YtjcpeenalbgacaaW3
import Derived.Test.YtjcpeenalbgacaaW6
import Derived.Test.YtjcpeenalbgacaaW8
import Derived.Test.YtjcpeenalbgacaaW11
import Derived.Test.YtjcpeenalbgacaaW12
import Derived.Test.YtjcpeenalbgacaaW13
import Derived.Test.YtjcpeenalbgacaaW17
import Derived.Test.YtjcpeenalbgacaaW20
import Derived.Test.YtjcpeenalbgacaaW24
import Derived.Test.YtjcpeenalbgacaaW33
import Derived.Test.YtjcpeenalbgacaaW34
import Derived.Test.YtjcpeenalbgacaaW41
import Derived.Test.YtjcpeenalbgacaaW42
import Derived.Test.YtjcpeenalbgacaaW48
import Derived.Test.YtjcpeenalbgacaaW56
import Derived.Test.YtjcpeenalbgacaaW57
import Derived.Test.YtjcpeenalbgacaaW58
import Derived.Test.YtjcpeenalbgacaaW59
import Derived.Test.YtjcpeenalbgacaaK3
namespace Go.Proofs.Ytjcpeenalbgacaa
set_option linter.unusedVariables false
set_option linter.unusedSimpArgs false
open Go.RowKit
attribute [local go_sem ↓] Go.wp_at_zero Go.wp_at_succ

theorem kf_drew {w : World} {a : Addr} (h : w.frozen? a = false) : w.drew.frozen? a = false := h

set_option maxRecDepth 100000 in
set_option maxHeartbeats 1000000 in
theorem QuotientGroup_spec (t : List (List Int)) (v : Value) (a : Int) (w : World) (hv : Rows w v t) :
    Calls Try.prog 41 #[.agg #[v], .int .i64 a] w (RetG (quoV t a) (quoC t a) w) := by
  obtain ⟨hlen, b, o, c, rfl, hc⟩ := id hv
  have hx0 := ext_box2 w (.slice (some ⟨b, o, none⟩) t.length c) (.slice none 0 0) 53 53
  have b0 : ((w.alloc (.cells #[.slice (some ⟨b, o, none⟩) t.length c] 53)).alloc (.cells #[.slice none 0 0] 53)).cell? ⟨w.heap.size, 0, none⟩ = some (.slice (some ⟨b, o, none⟩) t.length c) := by simp [go_sem]
  have r0 : ((w.alloc (.cells #[.slice (some ⟨b, o, none⟩) t.length c] 53)).alloc (.cells #[.slice none 0 0] 53)).cell? ⟨w.heap.size + 1, 0, none⟩ = some (.slice none 0 0) := by simp [go_sem]
  have q0 : ((w.alloc (.cells #[.slice (some ⟨b, o, none⟩) t.length c] 53)).alloc (.cells #[.slice none 0 0] 53)).frozen? ⟨w.heap.size + 1, 0, none⟩ = false := by simp [go_sem]
  have z0 : w.heap.size + 2 ≤ ((w.alloc (.cells #[.slice (some ⟨b, o, none⟩) t.length c] 53)).alloc (.cells #[.slice none 0 0] 53)).heap.size := by simp
  clear hc
  cases hz : (subC t a != 0) with
  | true =>
    have hz' : subC t a ≠ 0 := by simpa using hz
    rw [(quo_bad hz').1, (quo_bad hz').2]
    have hz2 : (subC t a == 0) = false := by simpa using hz
    clear hz'
    go_enter Try.func41, Try.ntmps41
    go_wp2_with fail
    generalize ((w.alloc (.cells #[.slice (some ⟨b, o, none⟩) t.length c] 53)).alloc (.cells #[.slice none 0 0] 53)) = A at *
    refine (l10Sub_any t _ _ _ (hv.ext hx0)).mono ?_
    rintro e w1 ⟨rfl, hx1⟩
    have f1 := hx1.cell r0
    have f2 := hx1.free q0 (by simp only []; omega)
    have b1 := hx1.cell b0
    have zz := hx1.size
    go_wp2
    refine bodyPost_ret (v := .tuple #[.agg #[.slice none 0 0], .int .i64 (subC t a)]) (by simp [results, Try.results41, go_sem, f1]) rfl ⟨_, rfl, RowsR.nil _ _, (hx0.trans hx1).setNew (by simp only []; omega) _⟩
  | false =>
    have hz' : subC t a = 0 := by simpa using hz
    obtain ⟨hg, m, rfl, hm, -⟩ := subC_zero hz'
    have HZ := Lib.hid hz'
    have HM := Lib.hid hm
    have HG := Lib.hid (groupB_iff.1 hg)
    have h12 := HG.out.1.2.1
    have HQL := Lib.hid (length_cosL t m)
    clear hz hz' hm hg
    cases hn : normB t m with
    | false =>
      rw [(quo_no HZ.out hn).1, (quo_no HZ.out hn).2]
      go_enter Try.func41, Try.ntmps41
      go_wp2_with fail
      generalize ((w.alloc (.cells #[.slice (some ⟨b, o, none⟩) t.length c] 53)).alloc (.cells #[.slice none 0 0] 53)) = A at *
      refine (l10Sub_any t _ _ _ (hv.ext hx0)).mono ?_
      rintro e w1 ⟨rfl, hx1⟩
      have f1 := hx1.cell r0
      have f2 := hx1.free q0 (by simp only []; omega)
      have b1 := hx1.cell b0
      have zz := hx1.size
      rw [HZ.out]
      go_wp2_with fail
      refine (l10Normal_any t _ m _ (hv.ext (hx0.trans hx1)) HG.out HM.out).mono ?_
      rintro e w2 ⟨rfl, hx2⟩
      rw [hn]
      have g1 := hx2.cell f1
      have g2 := hx2.free f2 (by simp only []; omega)
      have c1 := hx2.cell b1
      have zz2 := hx2.size
      have hX2 := (hx0.trans hx1).trans hx2
      go_wp2
      refine bodyPost_ret (v := .tuple #[.agg #[.slice none 0 0], .int .i64 5]) (by simp [results, Try.results41, go_sem, g1]) rfl ⟨_, rfl, RowsR.nil _ _, hX2.setNew (by simp only []; omega) _⟩
    | true =>
      rw [(quo_yes HZ.out hn).1, (quo_yes HZ.out hn).2]
      go_enter Try.func41, Try.ntmps41
      go_wp2_with fail
      generalize ((w.alloc (.cells #[.slice (some ⟨b, o, none⟩) t.length c] 53)).alloc (.cells #[.slice none 0 0] 53)) = A at *
      refine (l10Sub_any t _ _ _ (hv.ext hx0)).mono ?_
      rintro e w1 ⟨rfl, hx1⟩
      have f1 := hx1.cell r0
      have f2 := hx1.free q0 (by simp only []; omega)
      have b1 := hx1.cell b0
      have zz := hx1.size
      rw [HZ.out]
      go_wp2_with fail
      refine (l10Normal_any t _ m _ (hv.ext (hx0.trans hx1)) HG.out HM.out).mono ?_
      rintro e w2 ⟨rfl, hx2⟩
      rw [hn]
      have g1 := hx2.cell f1
      have g2 := hx2.free f2 (by simp only []; omega)
      have c1 := hx2.cell b1
      have zz2 := hx2.size
      have hX2 := (hx0.trans hx1).trans hx2
      have hle := fun i (hi : i < t.length) => cosL_le t m hi
      have HLE := Lib.hid hle
      clear hle
      go_wp2_with fail
      go_region_held3 (fun w' => w'.cell? ⟨w.heap.size, 0, none⟩ = some (.slice (some ⟨b, o, none⟩) t.length c))
        ((first | (focus ((repeat first | (with_reducible assumption) | (with_reducible refine Ext.cell hx4 ?_) | (with_reducible refine Ext.cell hx3 ?_) |  (with_reducible exact kc_new) | ((with_reducible refine kc_newE ?_); (simp; done)) | ((with_reducible refine kc_newEa ?_); (simp; done)) | ((with_reducible refine kc_newEb ?_); (simp; done)) | (with_reducible apply kc_alloc) | (with_reducible apply kc_drewN) | (with_reducible apply kc_drew) | ((with_reducible refine kc_set ?_ ?_); (first | (simp only []; omega) | (simp; omega) | (focus (simp; done)))) | ((with_reducible refine kc_set2 ?_ ?_); (focus (simp; done))) | (with_reducible refine kc_same (v := .slice none 0 0) ?_)); done)) | (focus ((repeat first | (with_reducible assumption) | (with_reducible refine Ext.cell hx3 ?_) |  (with_reducible exact kc_new) | ((with_reducible refine kc_newE ?_); (simp; done)) | ((with_reducible refine kc_newEa ?_); (simp; done)) | ((with_reducible refine kc_newEb ?_); (simp; done)) | (with_reducible apply kc_alloc) | (with_reducible apply kc_drewN) | (with_reducible apply kc_drew) | ((with_reducible refine kc_set ?_ ?_); (first | (simp only []; omega) | (simp; omega) | (focus (simp; done)))) | ((with_reducible refine kc_set2 ?_ ?_); (focus (simp; done))) | (with_reducible refine kc_same (v := .slice none 0 0) ?_)); done))))
        (first
          | (go_at_call 88; refine (l10Cosets_any t _ m _ (hv.ext (hX2.trans (by (repeat first | (with_reducible exact Ext.refl _) | (with_reducible assumption) | (with_reducible apply Ext.drew) | (with_reducible apply kx_drewN) | (with_reducible apply kx_alloc) | ((with_reducible refine kx_set ?_ ?_); (first | (simp only []; omega) | (simp; omega) | (focus (simp; done)))) )))) HG.out.1 HM.out).mono ?_; rintro e w3 ⟨b3, c3, rfl, hi3, hx3⟩; have zz3 : w2.heap.size ≤ w3.heap.size := hx3.size)
          | (go_at_call 87; refine (l04Quotient_any t (cosL t m) _ _ _ (hv.ext (hX2.trans (by (repeat first | (with_reducible exact Ext.refl _) | (with_reducible assumption) | (with_reducible apply Ext.drew) | (with_reducible apply kx_drewN) | (with_reducible apply kx_alloc) | ((with_reducible refine kx_set ?_ ?_); (first | (simp only []; omega) | (simp; omega) | (focus (simp; done)))) | (with_reducible refine Ext.trans ?_ hx3) )))) ⟨by rw [HQL.out]; omega, b3, 0, c3, by rw [HQL.out], hi3.ext (by (repeat first | (with_reducible exact Ext.refl _) | (with_reducible assumption) | (with_reducible apply Ext.drew) | (with_reducible apply kx_drewN) | (with_reducible apply kx_alloc) | ((with_reducible refine kx_set ?_ ?_); (first | (simp only []; omega) | (simp; omega) | (focus (simp; done)))) ))⟩ HG.out.1 HQL.out HLE.out).mono ?_; rintro e w4 ⟨v4, rfl, hr4, hx4⟩; obtain ⟨-, rb, ro, rc, rfl, -⟩ := id hr4; have zz4 := hx4.size; have g3 := hx4.cell (hx3.cell (kc_drew g1)); have g4 := hx4.free (hx3.free (kf_drew g2) (by simp; omega)) (by simp; omega)))
      go_wp2
      refine bodyPost_ret (v := .tuple #[.agg #[.slice (some ⟨rb, ro, none⟩) (quoT t (cosL t m)).length rc], .int .i64 0]) (by simp [results, Try.results41, go_sem, g3]) rfl ⟨_, rfl, ?_, ((hX2.drew.trans hx3).trans hx4).setNew (by simp only []; omega) _⟩
      exact Rows.toR (hr4.setNil g3 (.slice (some ⟨rb, ro, none⟩) (quoT t (cosL t m)).length rc))

set_option maxRecDepth 100000 in
set_option maxHeartbeats 1000000 in
theorem QuotientGroup_impl (t : List (List Int)) (v : Value) (a : Int) (w : World) (hv : Rows w v t) :
    Calls Try.prog 43 #[.agg #[v], .int .i64 a] w (NewGC (quoV t a) (quoC t a) w) := by
  obtain ⟨hlen, b, o, c, rfl, hc⟩ := id hv
  have hx0 := ext_box2 w (.slice (some ⟨b, o, none⟩) t.length c) (.slice none 0 0) 53 53
  have b0 : ((w.alloc (.cells #[.slice (some ⟨b, o, none⟩) t.length c] 53)).alloc (.cells #[.slice none 0 0] 53)).cell? ⟨w.heap.size, 0, none⟩ = some (.slice (some ⟨b, o, none⟩) t.length c) := by simp [go_sem]
  have r0 : ((w.alloc (.cells #[.slice (some ⟨b, o, none⟩) t.length c] 53)).alloc (.cells #[.slice none 0 0] 53)).cell? ⟨w.heap.size + 1, 0, none⟩ = some (.slice none 0 0) := by simp [go_sem]
  have q0 : ((w.alloc (.cells #[.slice (some ⟨b, o, none⟩) t.length c] 53)).alloc (.cells #[.slice none 0 0] 53)).frozen? ⟨w.heap.size + 1, 0, none⟩ = false := by simp [go_sem]
  have z0 : w.heap.size + 2 ≤ ((w.alloc (.cells #[.slice (some ⟨b, o, none⟩) t.length c] 53)).alloc (.cells #[.slice none 0 0] 53)).heap.size := by simp
  clear hc
  cases hz : (subC t a != 0) with
  | true =>
    have hz' : subC t a ≠ 0 := by simpa using hz
    rw [(quo_bad hz').1, (quo_bad hz').2]
    have hz2 : (subC t a == 0) = false := by simpa using hz
    clear hz'
    go_enter Try.func43, Try.ntmps43
    go_wp2_with fail
    generalize ((w.alloc (.cells #[.slice (some ⟨b, o, none⟩) t.length c] 53)).alloc (.cells #[.slice none 0 0] 53)) = A at *
    refine (checkSubgroup_any t _ _ _ (hv.ext hx0)).mono ?_
    rintro e w1 ⟨rfl, hx1⟩
    have f1 := hx1.cell r0
    have f2 := hx1.free q0 (by simp only []; omega)
    have b1 := hx1.cell b0
    have zz := hx1.size
    go_wp2
    refine bodyPost_ret (v := .tuple #[.agg #[.slice none 0 0], .int .i64 (subC t a)]) (by simp [results, Try.results43, go_sem, f1]) rfl ⟨_, rfl, OwnV.nil _ _ _, (hx0.trans hx1).setNew (by simp only []; omega) _⟩
  | false =>
    have hz' : subC t a = 0 := by simpa using hz
    obtain ⟨hg, m, rfl, hm, -⟩ := subC_zero hz'
    have HZ := Lib.hid hz'
    have HM := Lib.hid hm
    have HG := Lib.hid (groupB_iff.1 hg)
    have h12 := HG.out.1.2.1
    have HQL := Lib.hid (length_cosL t m)
    clear hz hz' hm hg
    cases hn : normB t m with
    | false =>
      rw [(quo_no HZ.out hn).1, (quo_no HZ.out hn).2]
      go_enter Try.func43, Try.ntmps43
      go_wp2_with fail
      generalize ((w.alloc (.cells #[.slice (some ⟨b, o, none⟩) t.length c] 53)).alloc (.cells #[.slice none 0 0] 53)) = A at *
      refine (checkSubgroup_any t _ _ _ (hv.ext hx0)).mono ?_
      rintro e w1 ⟨rfl, hx1⟩
      have f1 := hx1.cell r0
      have f2 := hx1.free q0 (by simp only []; omega)
      have b1 := hx1.cell b0
      have zz := hx1.size
      rw [HZ.out]
      go_wp2_with fail
      refine (isNormal_any t _ m _ (hv.ext (hx0.trans hx1)) HG.out HM.out).mono ?_
      rintro e w2 ⟨rfl, hx2⟩
      rw [hn]
      have g1 := hx2.cell f1
      have g2 := hx2.free f2 (by simp only []; omega)
      have c1 := hx2.cell b1
      have zz2 := hx2.size
      have hX2 := (hx0.trans hx1).trans hx2
      go_wp2
      refine bodyPost_ret (v := .tuple #[.agg #[.slice none 0 0], .int .i64 5]) (by simp [results, Try.results43, go_sem, g1]) rfl ⟨_, rfl, OwnV.nil _ _ _, hX2.setNew (by simp only []; omega) _⟩
    | true =>
      rw [(quo_yes HZ.out hn).1, (quo_yes HZ.out hn).2]
      go_enter Try.func43, Try.ntmps43
      go_wp2_with fail
      generalize ((w.alloc (.cells #[.slice (some ⟨b, o, none⟩) t.length c] 53)).alloc (.cells #[.slice none 0 0] 53)) = A at *
      refine (checkSubgroup_any t _ _ _ (hv.ext hx0)).mono ?_
      rintro e w1 ⟨rfl, hx1⟩
      have f1 := hx1.cell r0
      have f2 := hx1.free q0 (by simp only []; omega)
      have b1 := hx1.cell b0
      have zz := hx1.size
      rw [HZ.out]
      go_wp2_with fail
      refine (isNormal_any t _ m _ (hv.ext (hx0.trans hx1)) HG.out HM.out).mono ?_
      rintro e w2 ⟨rfl, hx2⟩
      rw [hn]
      have g1 := hx2.cell f1
      have g2 := hx2.free f2 (by simp only []; omega)
      have c1 := hx2.cell b1
      have zz2 := hx2.size
      have hX2 := (hx0.trans hx1).trans hx2
      go_wp2_with fail
      refine (cosets_any t _ m _ (hv.ext hX2) HG.out.1 HM.out).mono ?_
      rintro e w3 ⟨b3, c3, rfl, hi3, hx3⟩
      have g3 := hx3.cell g1
      have g4 := hx3.free g2 (by simp only []; omega)
      have c3' := hx3.cell c1
      have zz3 := hx3.size
      have hX3 := hX2.trans hx3
      have hii : Ints w3 (.slice (some ⟨b3, 0, none⟩) t.length c3) (cosL t m) := ⟨by rw [HQL.out]; omega, b3, 0, c3, by rw [HQL.out], hi3⟩
      have HII := Lib.hid hii
      clear hii hi3
      go_wp2_with fail
      refine (quotientTable_any t (cosL t m) _ _ _ (hv.ext hX3) HII.out HG.out.1 HQL.out).mono ?_
      rintro e w4 ⟨rb, rc, rfl, ho, hx4⟩
      have f3 := hx4.cell g3
      have f4 := hx4.free g4 (by simp only []; omega)
      have zz4 := hx4.size
      have hql : (quoT t (cosL t m)).length ≤ 12 := by rw [← quoT_def, length_mkT]; have := quoN_le t (cosL t m); omega
      go_wp2
      refine bodyPost_ret (v := .tuple #[.agg #[.slice (some ⟨rb, 0, none⟩) (quoT t (cosL t m)).length rc], .int .i64 0]) (by simp [results, Try.results43, go_sem, f3]) rfl ⟨_, rfl, ?_, (hX3.trans hx4).setNew (by simp only []; omega) _⟩
      have := ((ho.setOther (a := ⟨w.heap.size + 1, 0, none⟩) (.inl (by simp only []; omega)) (.slice (some ⟨rb, 0, none⟩) (quoT t (cosL t m)).length rc)).mono (lo' := w.heap.size) (hi' := w4.heap.size) (by omega) (Nat.le_refl _)).v (by rw [← quoT_def]; exact small_mkT (by have := quoN_le t (cosL t m); omega) _) rc
      simpa using this

end Go.Proofs.Ytjcpeenalbgacaa
