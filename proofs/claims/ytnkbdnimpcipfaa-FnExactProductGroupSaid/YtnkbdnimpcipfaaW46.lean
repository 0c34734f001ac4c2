/-
  Contracts: the table of a product; ProductGroup and ProductBrace.
-/
import Derived.Test.YtnkbdnimpcipfaaProg
import Derived.Deep.DeepCutAuto
import Derived.Deep.RegionWith
import Derived.Deep.RegionHeld3
import Derived.Deep.DrawnRows
import Derived.Test.YtnkbdnimpcipfaaBase
import Derived.Test.YtnkbdnimpcipfaaBase2
import Derived.Test.YtnkbdnimpcipfaaRet
import Derived.Test.YtnkbdnimpcipfaaSteps
import Derived.Test.YtnkbdnimpcipfaaGrow
import Derived.Test.YtnkbdnimpcipfaaGrowR
import Derived.Test.YtnkbdnimpcipfaaPure1
import Derived.Test.YtnkbdnimpcipfaaPureOrd
import Derived.Test.YtnkbdnimpcipfaaPureInv
import Derived.Test.YtnkbdnimpcipfaaPureTurn
import Derived.Test.YtnkbdnimpcipfaaPureConj
import Derived.Test.YtnkbdnimpcipfaaPureBr
import Derived.Test.YtnkbdnimpcipfaaPureProd
import Derived.Test.YtnkbdnimpcipfaaW1
import Derived.Test.YtnkbdnimpcipfaaW3
import Derived.Test.YtnkbdnimpcipfaaW6
import Derived.Test.YtnkbdnimpcipfaaW8
import Derived.Test.YtnkbdnimpcipfaaW11
import Derived.Test.YtnkbdnimpcipfaaW12
import Derived.Test.YtnkbdnimpcipfaaW13
import Derived.Test.YtnkbdnimpcipfaaW20
import Derived.Test.YtnkbdnimpcipfaaW26
import Derived.Test.YtnkbdnimpcipfaaW28
import Derived.Test.YtnkbdnimpcipfaaW29
import Derived.Test.YtnkbdnimpcipfaaW45
import Derived.Test.YtnkbdnimpcipfaaK2
import Derived.Test.YtnkbdnimpcipfaaK5
namespace Go.Proofs.Ytnkbdnimpcipfaa
set_option linter.unusedVariables false
set_option linter.unusedSimpArgs false
open Go.RowKit
attribute [local go_sem ↓] Go.wp_at_zero Go.wp_at_succ

set_option maxRecDepth 100000 in
theorem productTable_any (t u : List (List Int)) (v y : Value) (N : Nat) (w : World) (hN : N = t.length * u.length) (hN12 : N ≤ 12) (hv : Rows w v t) (hy : Rows w y u) (hT : TableOk t) (hU : TableOk u) :
    Calls Try.prog 75 #[v, y] w (NewT (mkT N (prodF t u)) w) := by
  obtain ⟨hlen, b, o, c, rfl, hc⟩ := id hv
  obtain ⟨hlen2, b2, o2, c2, rfl, hc2⟩ := id hy
  have hnm := cast_mul' t.length u.length N hN
  have ha12 := hT.2.1
  have hb12 := hU.2.1
  have hX : Ext w (((w.alloc (.cells #[.slice (some ⟨b, o, none⟩) t.length c] 22)).alloc (.cells #[.slice (some ⟨b2, o2, none⟩) u.length c2] 22)).alloc (.cells #[.int .i64 u.length] 3)) := (((Ext.refl _).alloc _).alloc _).alloc _
  have k0 : (((w.alloc (.cells #[.slice (some ⟨b, o, none⟩) t.length c] 22)).alloc (.cells #[.slice (some ⟨b2, o2, none⟩) u.length c2] 22)).alloc (.cells #[.int .i64 u.length] 3)).cell? ⟨w.heap.size, 0, none⟩ = some (.slice (some ⟨b, o, none⟩) t.length c) := by (repeat first | (with_reducible assumption) |  (with_reducible exact kc_new) | ((with_reducible refine kc_newE ?_); (simp; done)) | (with_reducible apply kc_alloc) | (with_reducible apply kc_drewN) | (with_reducible apply kc_drew) | ((with_reducible refine kc_set ?_ ?_); (first | (simp only []; omega) | (simp; omega) | (simp; done))) | ((with_reducible refine kc_set2 ?_ ?_); (simp; done)) | (with_reducible refine kc_same (v := .slice none 0 0) ?_))
  have k1 : (((w.alloc (.cells #[.slice (some ⟨b, o, none⟩) t.length c] 22)).alloc (.cells #[.slice (some ⟨b2, o2, none⟩) u.length c2] 22)).alloc (.cells #[.int .i64 u.length] 3)).cell? ⟨w.heap.size + 1, 0, none⟩ = some (.slice (some ⟨b2, o2, none⟩) u.length c2) := by (repeat first | (with_reducible assumption) |  (with_reducible exact kc_new) | ((with_reducible refine kc_newE ?_); (simp; done)) | (with_reducible apply kc_alloc) | (with_reducible apply kc_drewN) | (with_reducible apply kc_drew) | ((with_reducible refine kc_set ?_ ?_); (first | (simp only []; omega) | (simp; omega) | (simp; done))) | ((with_reducible refine kc_set2 ?_ ?_); (simp; done)) | (with_reducible refine kc_same (v := .slice none 0 0) ?_))
  have k2 : (((w.alloc (.cells #[.slice (some ⟨b, o, none⟩) t.length c] 22)).alloc (.cells #[.slice (some ⟨b2, o2, none⟩) u.length c2] 22)).alloc (.cells #[.int .i64 u.length] 3)).cell? ⟨w.heap.size + 2, 0, none⟩ = some (.int .i64 u.length) := by (repeat first | (with_reducible assumption) |  (with_reducible exact kc_new) | ((with_reducible refine kc_newE ?_); (simp; done)) | (with_reducible apply kc_alloc) | (with_reducible apply kc_drewN) | (with_reducible apply kc_drew) | ((with_reducible refine kc_set ?_ ?_); (first | (simp only []; omega) | (simp; omega) | (simp; done))) | ((with_reducible refine kc_set2 ?_ ?_); (simp; done)) | (with_reducible refine kc_same (v := .slice none 0 0) ?_))
  have zA := hX.size
  have HT := Lib.hid hT
  have HU := Lib.hid hU
  have HN := Lib.hid hN
  clear hc hc2 hT hU hN
  go_enter Try.func75, Try.ntmps75
  go_wp2_with fail
  generalize (((w.alloc (.cells #[.slice (some ⟨b, o, none⟩) t.length c] 22)).alloc (.cells #[.slice (some ⟨b2, o2, none⟩) u.length c2] 22)).alloc (.cells #[.int .i64 u.length] 3)) = A at *
  refine (tableBy_any N (prodF t u) 96 #[.pointer (some ⟨w.heap.size, 0, none⟩), .pointer (some ⟨w.heap.size + 2, 0, none⟩), .pointer (some ⟨w.heap.size + 1, 0, none⟩)] _ (by omega) callProductTable1 (fun w1 x z h1 hx hz => by
    rw [app23]
    exact productTable1_any t u _ _ N x z w.heap.size (w.heap.size + 2) (w.heap.size + 1) w1 HN.out (h1.cell k0) (h1.cell k2) (h1.cell k1) (hv.ext (hX.trans h1)) (hy.ext (hX.trans h1)) HT.out HU.out hx hz)).mono ?_
  rintro e w1 ⟨b1, c1, rfl, ho, hx1⟩
  go_wp2
  go_ret
  exact ⟨b1, c1, rfl, ho.mono zA (Nat.le_refl _), hX.trans hx1⟩

/-- the code of a product of groups; its table -/
@[irreducible] def pgC (t u : List (List Int)) : Int := if groupB t = true ∧ groupB u = true then (if t.length * u.length ≤ 12 then 0 else 3) else 1
@[irreducible] def pgT (t u : List (List Int)) : List (List Int) := if pgC t u = 0 then prodT t u else []
theorem pg_1 {t u} (h : ¬ (groupB t = true ∧ groupB u = true)) : pgC t u = 1 ∧ pgT t u = [] := by
  have h1 : pgC t u = 1 := by unfold pgC; rw [if_neg h]
  exact ⟨h1, by unfold pgT; rw [if_neg (by rw [h1]; decide)]⟩
theorem pg_3 {t u} (h : groupB t = true) (h2 : groupB u = true) (h3 : ¬ t.length * u.length ≤ 12) : pgC t u = 3 ∧ pgT t u = [] := by
  have h1 : pgC t u = 3 := by unfold pgC; rw [if_pos ⟨h, h2⟩, if_neg h3]
  exact ⟨h1, by unfold pgT; rw [if_neg (by rw [h1]; decide)]⟩
theorem pg_0 {t u} (h : groupB t = true) (h2 : groupB u = true) (h3 : t.length * u.length ≤ 12) : pgC t u = 0 ∧ pgT t u = mkT (t.length * u.length) (prodF t u) := by
  have h1 : pgC t u = 0 := by unfold pgC; rw [if_pos ⟨h, h2⟩, if_pos h3]
  exact ⟨h1, by unfold pgT; rw [if_pos h1, prodT_def]⟩

set_option maxRecDepth 100000 in
set_option maxHeartbeats 1000000 in
theorem ProductGroup_spec (t u : List (List Int)) (v y : Value) (w : World) (hv : Rows w v t) (hy : Rows w y u) :
    Calls Try.prog 33 #[.agg #[v], .agg #[y]] w (RetG (pgT t u) (pgC t u) w) := by
  obtain ⟨hlen, b, o, c, rfl, hc⟩ := id hv
  obtain ⟨hlen2, b2, o2, c2, rfl, hc2⟩ := id hy
  have hX : Ext w (((w.alloc (.cells #[.slice (some ⟨b, o, none⟩) t.length c] 28)).alloc (.cells #[.slice (some ⟨b2, o2, none⟩) u.length c2] 28)).alloc (.cells #[.slice none 0 0] 28)) := (((Ext.refl _).alloc _).alloc _).alloc _
  have k0 : (((w.alloc (.cells #[.slice (some ⟨b, o, none⟩) t.length c] 28)).alloc (.cells #[.slice (some ⟨b2, o2, none⟩) u.length c2] 28)).alloc (.cells #[.slice none 0 0] 28)).cell? ⟨w.heap.size, 0, none⟩ = some (.slice (some ⟨b, o, none⟩) t.length c) := by (repeat first | (with_reducible assumption) |  (with_reducible exact kc_new) | ((with_reducible refine kc_newE ?_); (simp; done)) | (with_reducible apply kc_alloc) | (with_reducible apply kc_drewN) | (with_reducible apply kc_drew) | ((with_reducible refine kc_set ?_ ?_); (first | (simp only []; omega) | (simp; omega) | (simp; done))) | ((with_reducible refine kc_set2 ?_ ?_); (simp; done)) | (with_reducible refine kc_same (v := .slice none 0 0) ?_))
  have k1 : (((w.alloc (.cells #[.slice (some ⟨b, o, none⟩) t.length c] 28)).alloc (.cells #[.slice (some ⟨b2, o2, none⟩) u.length c2] 28)).alloc (.cells #[.slice none 0 0] 28)).cell? ⟨w.heap.size + 1, 0, none⟩ = some (.slice (some ⟨b2, o2, none⟩) u.length c2) := by (repeat first | (with_reducible assumption) |  (with_reducible exact kc_new) | ((with_reducible refine kc_newE ?_); (simp; done)) | (with_reducible apply kc_alloc) | (with_reducible apply kc_drewN) | (with_reducible apply kc_drew) | ((with_reducible refine kc_set ?_ ?_); (first | (simp only []; omega) | (simp; omega) | (simp; done))) | ((with_reducible refine kc_set2 ?_ ?_); (simp; done)) | (with_reducible refine kc_same (v := .slice none 0 0) ?_))
  have r0 : (((w.alloc (.cells #[.slice (some ⟨b, o, none⟩) t.length c] 28)).alloc (.cells #[.slice (some ⟨b2, o2, none⟩) u.length c2] 28)).alloc (.cells #[.slice none 0 0] 28)).cell? ⟨w.heap.size + 2, 0, none⟩ = some (.slice none 0 0) := by (repeat first | (with_reducible assumption) |  (with_reducible exact kc_new) | ((with_reducible refine kc_newE ?_); (simp; done)) | (with_reducible apply kc_alloc) | (with_reducible apply kc_drewN) | (with_reducible apply kc_drew) | ((with_reducible refine kc_set ?_ ?_); (first | (simp only []; omega) | (simp; omega) | (simp; done))) | ((with_reducible refine kc_set2 ?_ ?_); (simp; done)) | (with_reducible refine kc_same (v := .slice none 0 0) ?_))
  have q0 : (((w.alloc (.cells #[.slice (some ⟨b, o, none⟩) t.length c] 28)).alloc (.cells #[.slice (some ⟨b2, o2, none⟩) u.length c2] 28)).alloc (.cells #[.slice none 0 0] 28)).frozen? ⟨w.heap.size + 2, 0, none⟩ = false := by simp [go_sem]
  have zA : w.heap.size + 3 ≤ (((w.alloc (.cells #[.slice (some ⟨b, o, none⟩) t.length c] 28)).alloc (.cells #[.slice (some ⟨b2, o2, none⟩) u.length c2] 28)).alloc (.cells #[.slice none 0 0] 28)).heap.size := by simp
  clear hc hc2
  cases hg : groupB t with
  | false =>
    rw [(pg_1 (fun h => by rw [hg] at h; cases h.1)).1, (pg_1 (fun h => by rw [hg] at h; cases h.1)).2]
    go_enter Try.func33, Try.ntmps33
    go_wp2_with fail
    generalize (((w.alloc (.cells #[.slice (some ⟨b, o, none⟩) t.length c] 28)).alloc (.cells #[.slice (some ⟨b2, o2, none⟩) u.length c2] 28)).alloc (.cells #[.slice none 0 0] 28)) = A at *
    refine (l10Is_any t _ _ (hv.ext hX)).mono ?_
    rintro e w1 ⟨rfl, hx⟩
    rw [hg]
    have zz := Ext.size hx
    replace q0 := hx.free q0 (by simp only []; omega)
    replace zA := Nat.le_trans zA zz
    replace hX := hX.trans hx
    replace k0 := hx.cell k0
    replace k1 := hx.cell k1
    replace r0 := hx.cell r0
    clear hx zz
    go_wp2
    refine bodyPost_ret (v := .tuple #[.agg #[.slice none 0 0], .int .i64 1]) (by simp [results, Try.results33, go_sem, r0]) rfl ⟨_, rfl, RowsR.nil _ _, hX.setNew (by simp only []; omega) _⟩
  | true =>
    cases hg2 : groupB u with
    | false =>
      rw [(pg_1 (fun h => by rw [hg2] at h; cases h.2)).1, (pg_1 (fun h => by rw [hg2] at h; cases h.2)).2]
      go_enter Try.func33, Try.ntmps33
      go_wp2_with fail
      generalize (((w.alloc (.cells #[.slice (some ⟨b, o, none⟩) t.length c] 28)).alloc (.cells #[.slice (some ⟨b2, o2, none⟩) u.length c2] 28)).alloc (.cells #[.slice none 0 0] 28)) = A at *
      refine (l10Is_any t _ _ (hv.ext hX)).mono ?_
      rintro e w1 ⟨rfl, hx⟩
      rw [hg]
      have zz := Ext.size hx
      replace q0 := hx.free q0 (by simp only []; omega)
      replace zA := Nat.le_trans zA zz
      replace hX := hX.trans hx
      replace k0 := hx.cell k0
      replace k1 := hx.cell k1
      replace r0 := hx.cell r0
      clear hx zz
      go_wp2_with fail
      refine (l10Is_any u _ _ (hy.ext hX)).mono ?_
      rintro e w2 ⟨rfl, hx⟩
      rw [hg2]
      have zz := Ext.size hx
      replace q0 := hx.free q0 (by simp only []; omega)
      replace zA := Nat.le_trans zA zz
      replace hX := hX.trans hx
      replace k0 := hx.cell k0
      replace k1 := hx.cell k1
      replace r0 := hx.cell r0
      clear hx zz
      go_wp2
      refine bodyPost_ret (v := .tuple #[.agg #[.slice none 0 0], .int .i64 1]) (by simp [results, Try.results33, go_sem, r0]) rfl ⟨_, rfl, RowsR.nil _ _, hX.setNew (by simp only []; omega) _⟩
    | true =>
      obtain ⟨N, hN⟩ : ∃ N : Nat, N = t.length * u.length := ⟨_, rfl⟩
      have hnm := cast_mul' t.length u.length N hN
      have HT := Lib.hid (groupB_iff.1 hg)
      have HU := Lib.hid (groupB_iff.1 hg2)
      have hN144 : N ≤ 144 := by rw [hN]; exact Nat.mul_le_mul HT.out.1.2.1 HU.out.1.2.1
      by_cases hN12 : N ≤ 12
      case neg =>
        rw [(pg_3 hg hg2 (by rw [← hN]; exact hN12)).1, (pg_3 hg hg2 (by rw [← hN]; exact hN12)).2]
        clear hN
        have hltN : (12 : Int) < (N : Int) := by omega
        have hltn : 12 < N := by omega
        have hdN : decide ((12 : Int) < (N : Int)) = true := by simp; omega
        go_enter Try.func33, Try.ntmps33
        go_wp2_with fail
        generalize (((w.alloc (.cells #[.slice (some ⟨b, o, none⟩) t.length c] 28)).alloc (.cells #[.slice (some ⟨b2, o2, none⟩) u.length c2] 28)).alloc (.cells #[.slice none 0 0] 28)) = A at *
        refine (l10Is_any t _ _ (hv.ext hX)).mono ?_
        rintro e w1 ⟨rfl, hx⟩
        rw [hg]
        have zz := Ext.size hx
        replace q0 := hx.free q0 (by simp only []; omega)
        replace zA := Nat.le_trans zA zz
        replace hX := hX.trans hx
        replace k0 := hx.cell k0
        replace k1 := hx.cell k1
        replace r0 := hx.cell r0
        clear hx zz
        go_wp2_with fail
        refine (l10Is_any u _ _ (hy.ext hX)).mono ?_
        rintro e w2 ⟨rfl, hx⟩
        rw [hg2]
        have zz := Ext.size hx
        replace q0 := hx.free q0 (by simp only []; omega)
        replace zA := Nat.le_trans zA zz
        replace hX := hX.trans hx
        replace k0 := hx.cell k0
        replace k1 := hx.cell k1
        replace r0 := hx.cell r0
        clear hx zz
        go_wp2
        refine bodyPost_ret (v := .tuple #[.agg #[.slice none 0 0], .int .i64 3]) (by simp [results, Try.results33, go_sem, r0]) rfl ⟨_, rfl, RowsR.nil _ _, hX.setNew (by simp only []; omega) _⟩
      case pos =>
        rw [(pg_0 hg hg2 (by rw [← hN]; exact hN12)).1, (pg_0 hg hg2 (by rw [← hN]; exact hN12)).2, ← hN]
        have HN := Lib.hid hN
        have HLT := Lib.hid (length_mkT N (prodF t u))
        clear hN
        go_enter Try.func33, Try.ntmps33
        go_wp2_with fail
        generalize (((w.alloc (.cells #[.slice (some ⟨b, o, none⟩) t.length c] 28)).alloc (.cells #[.slice (some ⟨b2, o2, none⟩) u.length c2] 28)).alloc (.cells #[.slice none 0 0] 28)) = A at *
        refine (l10Is_any t _ _ (hv.ext hX)).mono ?_
        rintro e w1 ⟨rfl, hx⟩
        rw [hg]
        have zz := Ext.size hx
        replace q0 := hx.free q0 (by simp only []; omega)
        replace zA := Nat.le_trans zA zz
        replace hX := hX.trans hx
        replace k0 := hx.cell k0
        replace k1 := hx.cell k1
        replace r0 := hx.cell r0
        clear hx zz
        go_wp2_with fail
        refine (l10Is_any u _ _ (hy.ext hX)).mono ?_
        rintro e w2 ⟨rfl, hx⟩
        rw [hg2]
        have zz := Ext.size hx
        replace q0 := hx.free q0 (by simp only []; omega)
        replace zA := Nat.le_trans zA zz
        replace hX := hX.trans hx
        replace k0 := hx.cell k0
        replace k1 := hx.cell k1
        replace r0 := hx.cell r0
        clear hx zz
        go_wp2_with fail
        refine (l04Product_any t u _ _ _ N HN.out hN12 (hv.ext hX) (hy.ext hX) HT.out.1 HU.out.1).mono ?_
        rintro e w3 ⟨v3, rfl, hr3, hx⟩
        obtain ⟨-, b3, o3, c3, rfl, -⟩ := id hr3
        have zz := Ext.size hx
        replace q0 := hx.free q0 (by simp only []; omega)
        replace zA := Nat.le_trans zA zz
        replace hX := hX.trans hx
        replace k0 := hx.cell k0
        replace k1 := hx.cell k1
        replace r0 := hx.cell r0
        clear hx zz
        go_wp2
        refine bodyPost_ret (v := .tuple #[.agg #[.slice (some ⟨b3, o3, none⟩) (mkT N (prodF t u)).length c3], .int .i64 0]) (by simp [results, Try.results33, go_sem, r0]) rfl ⟨_, rfl, (hr3.setNil r0 _).toR, hX.setNew (by simp only []; omega) _⟩

set_option maxRecDepth 100000 in
set_option maxHeartbeats 1000000 in
theorem ProductGroup_impl (t u : List (List Int)) (v y : Value) (w : World) (hv : Rows w v t) (hy : Rows w y u) :
    Calls Try.prog 34 #[.agg #[v], .agg #[y]] w (NewGC (pgT t u) (pgC t u) w) := by
  obtain ⟨hlen, b, o, c, rfl, hc⟩ := id hv
  obtain ⟨hlen2, b2, o2, c2, rfl, hc2⟩ := id hy
  have hX : Ext w (((w.alloc (.cells #[.slice (some ⟨b, o, none⟩) t.length c] 28)).alloc (.cells #[.slice (some ⟨b2, o2, none⟩) u.length c2] 28)).alloc (.cells #[.slice none 0 0] 28)) := (((Ext.refl _).alloc _).alloc _).alloc _
  have k0 : (((w.alloc (.cells #[.slice (some ⟨b, o, none⟩) t.length c] 28)).alloc (.cells #[.slice (some ⟨b2, o2, none⟩) u.length c2] 28)).alloc (.cells #[.slice none 0 0] 28)).cell? ⟨w.heap.size, 0, none⟩ = some (.slice (some ⟨b, o, none⟩) t.length c) := by (repeat first | (with_reducible assumption) |  (with_reducible exact kc_new) | ((with_reducible refine kc_newE ?_); (simp; done)) | (with_reducible apply kc_alloc) | (with_reducible apply kc_drewN) | (with_reducible apply kc_drew) | ((with_reducible refine kc_set ?_ ?_); (first | (simp only []; omega) | (simp; omega) | (simp; done))) | ((with_reducible refine kc_set2 ?_ ?_); (simp; done)) | (with_reducible refine kc_same (v := .slice none 0 0) ?_))
  have k1 : (((w.alloc (.cells #[.slice (some ⟨b, o, none⟩) t.length c] 28)).alloc (.cells #[.slice (some ⟨b2, o2, none⟩) u.length c2] 28)).alloc (.cells #[.slice none 0 0] 28)).cell? ⟨w.heap.size + 1, 0, none⟩ = some (.slice (some ⟨b2, o2, none⟩) u.length c2) := by (repeat first | (with_reducible assumption) |  (with_reducible exact kc_new) | ((with_reducible refine kc_newE ?_); (simp; done)) | (with_reducible apply kc_alloc) | (with_reducible apply kc_drewN) | (with_reducible apply kc_drew) | ((with_reducible refine kc_set ?_ ?_); (first | (simp only []; omega) | (simp; omega) | (simp; done))) | ((with_reducible refine kc_set2 ?_ ?_); (simp; done)) | (with_reducible refine kc_same (v := .slice none 0 0) ?_))
  have r0 : (((w.alloc (.cells #[.slice (some ⟨b, o, none⟩) t.length c] 28)).alloc (.cells #[.slice (some ⟨b2, o2, none⟩) u.length c2] 28)).alloc (.cells #[.slice none 0 0] 28)).cell? ⟨w.heap.size + 2, 0, none⟩ = some (.slice none 0 0) := by (repeat first | (with_reducible assumption) |  (with_reducible exact kc_new) | ((with_reducible refine kc_newE ?_); (simp; done)) | (with_reducible apply kc_alloc) | (with_reducible apply kc_drewN) | (with_reducible apply kc_drew) | ((with_reducible refine kc_set ?_ ?_); (first | (simp only []; omega) | (simp; omega) | (simp; done))) | ((with_reducible refine kc_set2 ?_ ?_); (simp; done)) | (with_reducible refine kc_same (v := .slice none 0 0) ?_))
  have q0 : (((w.alloc (.cells #[.slice (some ⟨b, o, none⟩) t.length c] 28)).alloc (.cells #[.slice (some ⟨b2, o2, none⟩) u.length c2] 28)).alloc (.cells #[.slice none 0 0] 28)).frozen? ⟨w.heap.size + 2, 0, none⟩ = false := by simp [go_sem]
  have zA : w.heap.size + 3 ≤ (((w.alloc (.cells #[.slice (some ⟨b, o, none⟩) t.length c] 28)).alloc (.cells #[.slice (some ⟨b2, o2, none⟩) u.length c2] 28)).alloc (.cells #[.slice none 0 0] 28)).heap.size := by simp
  clear hc hc2
  cases hg : groupB t with
  | false =>
    rw [(pg_1 (fun h => by rw [hg] at h; cases h.1)).1, (pg_1 (fun h => by rw [hg] at h; cases h.1)).2]
    go_enter Try.func34, Try.ntmps34
    go_wp2_with fail
    generalize (((w.alloc (.cells #[.slice (some ⟨b, o, none⟩) t.length c] 28)).alloc (.cells #[.slice (some ⟨b2, o2, none⟩) u.length c2] 28)).alloc (.cells #[.slice none 0 0] 28)) = A at *
    refine (IsGroup_impl t _ _ (hv.ext hX)).mono ?_
    rintro e w1 ⟨rfl, hx⟩
    rw [hg]
    have zz := Ext.size hx
    replace q0 := hx.free q0 (by simp only []; omega)
    replace zA := Nat.le_trans zA zz
    replace hX := hX.trans hx
    replace k0 := hx.cell k0
    replace k1 := hx.cell k1
    replace r0 := hx.cell r0
    clear hx zz
    go_wp2
    refine bodyPost_ret (v := .tuple #[.agg #[.slice none 0 0], .int .i64 1]) (by simp [results, Try.results34, go_sem, r0]) rfl ⟨_, rfl, OwnV.nil _ _ _, hX.setNew (by simp only []; omega) _⟩
  | true =>
    cases hg2 : groupB u with
    | false =>
      rw [(pg_1 (fun h => by rw [hg2] at h; cases h.2)).1, (pg_1 (fun h => by rw [hg2] at h; cases h.2)).2]
      go_enter Try.func34, Try.ntmps34
      go_wp2_with fail
      generalize (((w.alloc (.cells #[.slice (some ⟨b, o, none⟩) t.length c] 28)).alloc (.cells #[.slice (some ⟨b2, o2, none⟩) u.length c2] 28)).alloc (.cells #[.slice none 0 0] 28)) = A at *
      refine (IsGroup_impl t _ _ (hv.ext hX)).mono ?_
      rintro e w1 ⟨rfl, hx⟩
      rw [hg]
      have zz := Ext.size hx
      replace q0 := hx.free q0 (by simp only []; omega)
      replace zA := Nat.le_trans zA zz
      replace hX := hX.trans hx
      replace k0 := hx.cell k0
      replace k1 := hx.cell k1
      replace r0 := hx.cell r0
      clear hx zz
      go_wp2_with fail
      refine (IsGroup_impl u _ _ (hy.ext hX)).mono ?_
      rintro e w2 ⟨rfl, hx⟩
      rw [hg2]
      have zz := Ext.size hx
      replace q0 := hx.free q0 (by simp only []; omega)
      replace zA := Nat.le_trans zA zz
      replace hX := hX.trans hx
      replace k0 := hx.cell k0
      replace k1 := hx.cell k1
      replace r0 := hx.cell r0
      clear hx zz
      go_wp2
      refine bodyPost_ret (v := .tuple #[.agg #[.slice none 0 0], .int .i64 1]) (by simp [results, Try.results34, go_sem, r0]) rfl ⟨_, rfl, OwnV.nil _ _ _, hX.setNew (by simp only []; omega) _⟩
    | true =>
      obtain ⟨N, hN⟩ : ∃ N : Nat, N = t.length * u.length := ⟨_, rfl⟩
      have hnm := cast_mul' t.length u.length N hN
      have HT := Lib.hid (groupB_iff.1 hg)
      have HU := Lib.hid (groupB_iff.1 hg2)
      have hN144 : N ≤ 144 := by rw [hN]; exact Nat.mul_le_mul HT.out.1.2.1 HU.out.1.2.1
      by_cases hN12 : N ≤ 12
      case neg =>
        rw [(pg_3 hg hg2 (by rw [← hN]; exact hN12)).1, (pg_3 hg hg2 (by rw [← hN]; exact hN12)).2]
        clear hN
        have hltN : (12 : Int) < (N : Int) := by omega
        have hltn : 12 < N := by omega
        have hdN : decide ((12 : Int) < (N : Int)) = true := by simp; omega
        go_enter Try.func34, Try.ntmps34
        go_wp2_with fail
        generalize (((w.alloc (.cells #[.slice (some ⟨b, o, none⟩) t.length c] 28)).alloc (.cells #[.slice (some ⟨b2, o2, none⟩) u.length c2] 28)).alloc (.cells #[.slice none 0 0] 28)) = A at *
        refine (IsGroup_impl t _ _ (hv.ext hX)).mono ?_
        rintro e w1 ⟨rfl, hx⟩
        rw [hg]
        have zz := Ext.size hx
        replace q0 := hx.free q0 (by simp only []; omega)
        replace zA := Nat.le_trans zA zz
        replace hX := hX.trans hx
        replace k0 := hx.cell k0
        replace k1 := hx.cell k1
        replace r0 := hx.cell r0
        clear hx zz
        go_wp2_with fail
        refine (IsGroup_impl u _ _ (hy.ext hX)).mono ?_
        rintro e w2 ⟨rfl, hx⟩
        rw [hg2]
        have zz := Ext.size hx
        replace q0 := hx.free q0 (by simp only []; omega)
        replace zA := Nat.le_trans zA zz
        replace hX := hX.trans hx
        replace k0 := hx.cell k0
        replace k1 := hx.cell k1
        replace r0 := hx.cell r0
        clear hx zz
        go_wp2
        refine bodyPost_ret (v := .tuple #[.agg #[.slice none 0 0], .int .i64 3]) (by simp [results, Try.results34, go_sem, r0]) rfl ⟨_, rfl, OwnV.nil _ _ _, hX.setNew (by simp only []; omega) _⟩
      case pos =>
        rw [(pg_0 hg hg2 (by rw [← hN]; exact hN12)).1, (pg_0 hg hg2 (by rw [← hN]; exact hN12)).2, ← hN]
        have HN := Lib.hid hN
        have HLT := Lib.hid (length_mkT N (prodF t u))
        clear hN
        go_enter Try.func34, Try.ntmps34
        go_wp2_with fail
        generalize (((w.alloc (.cells #[.slice (some ⟨b, o, none⟩) t.length c] 28)).alloc (.cells #[.slice (some ⟨b2, o2, none⟩) u.length c2] 28)).alloc (.cells #[.slice none 0 0] 28)) = A at *
        refine (IsGroup_impl t _ _ (hv.ext hX)).mono ?_
        rintro e w1 ⟨rfl, hx⟩
        rw [hg]
        have zz := Ext.size hx
        replace q0 := hx.free q0 (by simp only []; omega)
        replace zA := Nat.le_trans zA zz
        replace hX := hX.trans hx
        replace k0 := hx.cell k0
        replace k1 := hx.cell k1
        replace r0 := hx.cell r0
        clear hx zz
        go_wp2_with fail
        refine (IsGroup_impl u _ _ (hy.ext hX)).mono ?_
        rintro e w2 ⟨rfl, hx⟩
        rw [hg2]
        have zz := Ext.size hx
        replace q0 := hx.free q0 (by simp only []; omega)
        replace zA := Nat.le_trans zA zz
        replace hX := hX.trans hx
        replace k0 := hx.cell k0
        replace k1 := hx.cell k1
        replace r0 := hx.cell r0
        clear hx zz
        have zX := hX.size
        have zB := zA
        go_wp2_with fail
        refine (productTable_any t u _ _ N _ HN.out hN12 (hv.ext hX) (hy.ext hX) HT.out.1 HU.out.1).mono ?_
        rintro e w3 ⟨b3, c3, rfl, ho3, hx⟩
        have zz := Ext.size hx
        replace q0 := hx.free q0 (by simp only []; omega)
        replace zA := Nat.le_trans zA zz
        replace hX := hX.trans hx
        replace k0 := hx.cell k0
        replace k1 := hx.cell k1
        replace r0 := hx.cell r0
        clear hx zz
        go_wp2
        refine bodyPost_ret (v := .tuple #[.agg #[.slice (some ⟨b3, 0, none⟩) (mkT N (prodF t u)).length c3], .int .i64 0]) (by simp [results, Try.results34, go_sem, r0]) rfl ⟨_, rfl, ?_, hX.setNew (by simp only []; omega) _⟩
        have hs := (ho3.setOther (a := ⟨w.heap.size + 2, 0, none⟩) (.inl (by simp only []; omega)) (.slice (some ⟨b3, 0, none⟩) (mkT N (prodF t u)).length c3)).mono (lo' := w.heap.size) (hi' := w3.heap.size) (by omega) (Nat.le_refl _)
        simpa using hs.v (small_mkT (by omega) _) c3

theorem pgT_ne (t u : List (List Int)) : NoEmpty (pgT t u) := by
  unfold pgT
  split
  · rename_i h
    have : groupB t = true ∧ groupB u = true := by
      apply Classical.byContradiction
      intro hn; rw [(pg_1 hn).1] at h; omega
    rw [prodT_def]
    have h1 := (groupB_iff.1 this.1).1.1
    have h2 := (groupB_iff.1 this.2).1.1
    exact NoEmpty.made (Nat.mul_pos (by omega) (by omega)) _
  · exact NoEmpty.nil
end Go.Proofs.Ytnkbdnimpcipfaa
