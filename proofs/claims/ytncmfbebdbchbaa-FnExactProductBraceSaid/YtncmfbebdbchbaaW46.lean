/-
  Contracts: the table of a product; ProductGroup and ProductBrace.
-/
import Derived.Test.YtncmfbebdbchbaaProg
import Derived.Deep.DeepCutAuto
import Derived.Deep.RegionWith
import Derived.Deep.RegionHeld3
import Derived.Deep.DrawnRows
import Derived.Test.YtncmfbebdbchbaaBase
import Derived.Test.YtncmfbebdbchbaaBase2
import Derived.Test.YtncmfbebdbchbaaRet
import Derived.Test.YtncmfbebdbchbaaSteps
import Derived.Test.YtncmfbebdbchbaaGrow
import Derived.Test.YtncmfbebdbchbaaGrowR
import Derived.Test.YtncmfbebdbchbaaPure1
import Derived.Test.YtncmfbebdbchbaaPureOrd
import Derived.Test.YtncmfbebdbchbaaPureInv
import Derived.Test.YtncmfbebdbchbaaPureTurn
import Derived.Test.YtncmfbebdbchbaaPureConj
import Derived.Test.YtncmfbebdbchbaaPureBr
import Derived.Test.YtncmfbebdbchbaaPureProd
import Derived.Test.YtncmfbebdbchbaaW1
import Derived.Test.YtncmfbebdbchbaaW3
import Derived.Test.YtncmfbebdbchbaaW6
import Derived.Test.YtncmfbebdbchbaaW8
import Derived.Test.YtncmfbebdbchbaaW11
import Derived.Test.YtncmfbebdbchbaaW12
import Derived.Test.YtncmfbebdbchbaaW13
import Derived.Test.YtncmfbebdbchbaaW20
import Derived.Test.YtncmfbebdbchbaaW26
import Derived.Test.YtncmfbebdbchbaaW28
import Derived.Test.YtncmfbebdbchbaaW29
import Derived.Test.YtncmfbebdbchbaaW45
import Derived.Test.YtncmfbebdbchbaaK2
import Derived.Test.YtncmfbebdbchbaaK5
namespace Go.Proofs.Ytncmfbebdbchbaa
set_option linter.unusedVariables false
set_option linter.unusedSimpArgs false
open Go.RowKit
attribute [local go_sem ↓] Go.wp_at_zero Go.wp_at_succ

set_option maxRecDepth 100000 in
theorem productTable_any (t u : List (List Int)) (v y : Value) (N : Nat) (w : World) (hN : N = t.length * u.length) (hN12 : N ≤ 12) (hv : Rows w v t) (hy : Rows w y u) (hT : TableOk t) (hU : TableOk u) :
    Calls Try.prog 95 #[v, y] w (NewT (mkT N (prodF t u)) w) := by
  obtain ⟨hlen, b, o, c, rfl, hc⟩ := id hv
  obtain ⟨hlen2, b2, o2, c2, rfl, hc2⟩ := id hy
  have hnm := cast_mul' t.length u.length N hN
  have ha12 := hT.2.1
  have hb12 := hU.2.1
  have hX : Ext w (((w.alloc (.cells #[.slice (some ⟨b, o, none⟩) t.length c] 22)).alloc (.cells #[.slice (some ⟨b2, o2, none⟩) u.length c2] 22)).alloc (.cells #[.int .i64 u.length] 3)) := (((Ext.refl _).alloc _).alloc _).alloc _
  have k0 : (((w.alloc (.cells #[.slice (some ⟨b, o, none⟩) t.length c] 22)).alloc (.cells #[.slice (some ⟨b2, o2, none⟩) u.length c2] 22)).alloc (.cells #[.int .i64 u.length] 3)).cell? ⟨w.heap.size, 0, none⟩ = some (.slice (some ⟨b, o, none⟩) t.length c) := by (repeat first | (with_reducible assumption) |  (with_reducible exact kc_new) | ((with_reducible refine kc_newE ?_); (simp; done)) | ((with_reducible refine kc_newEa ?_); (simp; done)) | ((with_reducible refine kc_newEb ?_); (simp; done)) | (with_reducible apply kc_alloc) | (with_reducible apply kc_drewN) | (with_reducible apply kc_drew) | ((with_reducible refine kc_set ?_ ?_); (first | (simp only []; omega) | (simp; omega) | (focus (simp; done)))) | ((with_reducible refine kc_set2 ?_ ?_); (focus (simp; done))) | (with_reducible refine kc_same (v := .slice none 0 0) ?_))
  have k1 : (((w.alloc (.cells #[.slice (some ⟨b, o, none⟩) t.length c] 22)).alloc (.cells #[.slice (some ⟨b2, o2, none⟩) u.length c2] 22)).alloc (.cells #[.int .i64 u.length] 3)).cell? ⟨w.heap.size + 1, 0, none⟩ = some (.slice (some ⟨b2, o2, none⟩) u.length c2) := by (repeat first | (with_reducible assumption) |  (with_reducible exact kc_new) | ((with_reducible refine kc_newE ?_); (simp; done)) | ((with_reducible refine kc_newEa ?_); (simp; done)) | ((with_reducible refine kc_newEb ?_); (simp; done)) | (with_reducible apply kc_alloc) | (with_reducible apply kc_drewN) | (with_reducible apply kc_drew) | ((with_reducible refine kc_set ?_ ?_); (first | (simp only []; omega) | (simp; omega) | (focus (simp; done)))) | ((with_reducible refine kc_set2 ?_ ?_); (focus (simp; done))) | (with_reducible refine kc_same (v := .slice none 0 0) ?_))
  have k2 : (((w.alloc (.cells #[.slice (some ⟨b, o, none⟩) t.length c] 22)).alloc (.cells #[.slice (some ⟨b2, o2, none⟩) u.length c2] 22)).alloc (.cells #[.int .i64 u.length] 3)).cell? ⟨w.heap.size + 2, 0, none⟩ = some (.int .i64 u.length) := by (repeat first | (with_reducible assumption) |  (with_reducible exact kc_new) | ((with_reducible refine kc_newE ?_); (simp; done)) | ((with_reducible refine kc_newEa ?_); (simp; done)) | ((with_reducible refine kc_newEb ?_); (simp; done)) | (with_reducible apply kc_alloc) | (with_reducible apply kc_drewN) | (with_reducible apply kc_drew) | ((with_reducible refine kc_set ?_ ?_); (first | (simp only []; omega) | (simp; omega) | (focus (simp; done)))) | ((with_reducible refine kc_set2 ?_ ?_); (focus (simp; done))) | (with_reducible refine kc_same (v := .slice none 0 0) ?_))
  have zA := hX.size
  have HT := Lib.hid hT
  have HU := Lib.hid hU
  have HN := Lib.hid hN
  clear hc hc2 hT hU hN
  go_enter Try.func95, Try.ntmps95
  go_wp2_with fail
  generalize (((w.alloc (.cells #[.slice (some ⟨b, o, none⟩) t.length c] 22)).alloc (.cells #[.slice (some ⟨b2, o2, none⟩) u.length c2] 22)).alloc (.cells #[.int .i64 u.length] 3)) = A at *
  refine (tableBy_any N (prodF t u) 126 #[.pointer (some ⟨w.heap.size, 0, none⟩), .pointer (some ⟨w.heap.size + 2, 0, none⟩), .pointer (some ⟨w.heap.size + 1, 0, none⟩)] _ (by omega) callProductTable1 (fun w1 x z h1 hx hz => by
    rw [app23]
    exact productTable1_any t u _ _ N x z w.heap.size (w.heap.size + 2) (w.heap.size + 1) w1 HN.out (h1.cell k0) (h1.cell k2) (h1.cell k1) (hv.ext (hX.trans h1)) (hy.ext (hX.trans h1)) HT.out HU.out hx hz)).mono ?_
  rintro e w1 ⟨b1, c1, rfl, ho, hx1⟩
  go_wp2
  go_ret
  exact ⟨b1, c1, rfl, ho.mono zA (Nat.le_refl _), hX.trans hx1⟩

/-- the code of a product of groups; its table -/
@[irreducible] def pgC (t u : List (List Int)) : Int := if groupB t = true ∧ groupB u = true then (if t.length * u.length ≤ 12 then 0 else 3) else 1
@[irreducible] def pgT (t u : List (List Int)) : List (List Int) := if pgC t u = 0 then prodT t u else []
theorem pg_1 {t u} (h : ¬ (groupB t = true ∧ groupB u = true)) : pgC t u = 1 ∧ pgT t u = [] := by
  have h1 : pgC t u = 1 := by unfold pgC; rw [if_neg h]
  exact ⟨h1, by unfold pgT; rw [if_neg (by rw [h1]; decide)]⟩
theorem pg_3 {t u} (h : groupB t = true) (h2 : groupB u = true) (h3 : ¬ t.length * u.length ≤ 12) : pgC t u = 3 ∧ pgT t u = [] := by
  have h1 : pgC t u = 3 := by unfold pgC; rw [if_pos ⟨h, h2⟩, if_neg h3]
  exact ⟨h1, by unfold pgT; rw [if_neg (by rw [h1]; decide)]⟩
theorem pg_0 {t u} (h : groupB t = true) (h2 : groupB u = true) (h3 : t.length * u.length ≤ 12) : pgC t u = 0 ∧ pgT t u = mkT (t.length * u.length) (prodF t u) := by
  have h1 : pgC t u = 0 := by unfold pgC; rw [if_pos ⟨h, h2⟩, if_pos h3]
  exact ⟨h1, by unfold pgT; rw [if_pos h1, prodT_def]⟩

theorem pgT_ne (t u : List (List Int)) : NoEmpty (pgT t u) := by
  unfold pgT
  split
  · rename_i h
    have : groupB t = true ∧ groupB u = true := by
      apply Classical.byContradiction
      intro hn; rw [(pg_1 hn).1] at h; omega
    rw [prodT_def]
    have h1 := (groupB_iff.1 this.1).1.1
    have h2 := (groupB_iff.1 this.2).1.1
    exact NoEmpty.made (Nat.mul_pos (by omega) (by omega)) _
  · exact NoEmpty.nil
end Go.Proofs.Ytncmfbebdbchbaa
