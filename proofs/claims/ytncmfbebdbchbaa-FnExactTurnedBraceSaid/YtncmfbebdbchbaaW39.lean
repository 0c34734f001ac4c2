/-
  Contracts of TurnedBrace: reference and program.
-/
import Derived.Test.YtncmfbebdbchbaaProg
import Derived.Deep.DeepCutAuto
import Derived.Deep.RegionWith
import Derived.Test.YtncmfbebdbchbaaBase
import Derived.Test.YtncmfbebdbchbaaBase2
import Derived.Test.YtncmfbebdbchbaaRet
import Derived.Test.YtncmfbebdbchbaaGrow
import Derived.Test.YtncmfbebdbchbaaPure1
import Derived.Test.YtncmfbebdbchbaaPureOrd
import Derived.Test.YtncmfbebdbchbaaPureInv
import Derived.Test.YtncmfbebdbchbaaPureTurn
import Derived.Test.YtncmfbebdbchbaaW3
import Derived.Test.YtncmfbebdbchbaaW6
import Derived.Test.YtncmfbebdbchbaaW7
import Derived.Test.YtncmfbebdbchbaaW8
import Derived.Test.YtncmfbebdbchbaaW11
import Derived.Test.YtncmfbebdbchbaaW13
import Derived.Test.YtncmfbebdbchbaaW25
import Derived.Test.YtncmfbebdbchbaaK2
import Derived.Test.YtncmfbebdbchbaaW21
namespace Go.Proofs.Ytncmfbebdbchbaa
set_option linter.unusedVariables false
set_option linter.unusedSimpArgs false
open Go.RowKit

set_option maxRecDepth 100000 in
set_option maxHeartbeats 1000000 in
theorem TurnedBrace_spec (t : List (List Int)) (v : Value) (w : World) (hv : Rows w v t) :
    Calls Try.prog 40 #[.agg #[v]] w (RetB (ifG t t []) (ifG t (turnT t) []) (codeG t) w) := by
  obtain ⟨hlen, b, o, c, rfl, hc⟩ := id hv
  have hx0 : Ext w ((w.alloc (.cells #[.slice (some ⟨b, o, none⟩) t.length c] 29)).alloc (.cells #[.slice none 0 0, .slice none 0 0] 41)) := ((Ext.refl _).alloc _).alloc _
  have b0 : ((w.alloc (.cells #[.slice (some ⟨b, o, none⟩) t.length c] 29)).alloc (.cells #[.slice none 0 0, .slice none 0 0] 41)).cell? ⟨w.heap.size, 0, none⟩ = some (.slice (some ⟨b, o, none⟩) t.length c) := by simp [go_sem]
  have r0 : ((w.alloc (.cells #[.slice (some ⟨b, o, none⟩) t.length c] 29)).alloc (.cells #[.slice none 0 0, .slice none 0 0] 41)).cell? ⟨w.heap.size + 1, 0, none⟩ = some (.slice none 0 0) := by simp [go_sem]
  have q0 : ((w.alloc (.cells #[.slice (some ⟨b, o, none⟩) t.length c] 29)).alloc (.cells #[.slice none 0 0, .slice none 0 0] 41)).frozen? ⟨w.heap.size + 1, 0, none⟩ = false := by simp [go_sem]
  have r1 : ((w.alloc (.cells #[.slice (some ⟨b, o, none⟩) t.length c] 29)).alloc (.cells #[.slice none 0 0, .slice none 0 0] 41)).cell? ⟨w.heap.size + 1, 1, none⟩ = some (.slice none 0 0) := by simp [go_sem]
  have q1 : ((w.alloc (.cells #[.slice (some ⟨b, o, none⟩) t.length c] 29)).alloc (.cells #[.slice none 0 0, .slice none 0 0] 41)).frozen? ⟨w.heap.size + 1, 1, none⟩ = false := by simp [go_sem]
  have z0 : w.heap.size + 2 = ((w.alloc (.cells #[.slice (some ⟨b, o, none⟩) t.length c] 29)).alloc (.cells #[.slice none 0 0, .slice none 0 0] 41)).heap.size := by simp
  cases hg : groupB t with
  | false =>
    rw [ifG_no hg, codeG_no hg]
    try rw [ifG_no hg]
    go_enter Try.func40, Try.ntmps40
    go_wp2_with fail
    generalize ((w.alloc (.cells #[.slice (some ⟨b, o, none⟩) t.length c] 29)).alloc (.cells #[.slice none 0 0, .slice none 0 0] 41)) = A at *
    refine (l10Is_any t _ _ (hv.ext hx0)).mono ?_
    rintro e w1 ⟨rfl, hx1⟩
    rw [hg]
    have f1 := hx1.cell r0
    have f2 := hx1.free q0 (by simp only []; omega)
    have f3 := hx1.cell r1
    have f4 := hx1.free q1 (by simp only []; omega)
    have zz := hx1.size
    go_wp2
    refine bodyPost_ret (v := .tuple #[.agg #[.slice none 0 0, .slice none 0 0], .int .i64 1]) (by simp [results, Try.results40, go_sem, f1, f3]) rfl ⟨_, _, rfl, ?_, ((hx0.trans hx1).setNew (by simp only []; omega) _).setNew (by simp only []; omega) _⟩
    exact RowsB.nil _ _ _
  | true =>
    have hG := groupB_iff.1 hg
    rw [ifG_yes hg, codeG_yes hg]
    try rw [ifG_yes hg]
    go_enter Try.func40, Try.ntmps40
    go_wp2_with fail
    generalize ((w.alloc (.cells #[.slice (some ⟨b, o, none⟩) t.length c] 29)).alloc (.cells #[.slice none 0 0, .slice none 0 0] 41)) = A at *
    refine (l10Is_any t _ _ (hv.ext hx0)).mono ?_
    rintro e w1 ⟨rfl, hx1⟩
    rw [hg]
    have f1 := hx1.cell r0
    have f2 := hx1.free q0 (by simp only []; omega)
    have f3 := hx1.cell r1
    have f4 := hx1.free q1 (by simp only []; omega)
    have b1 := hx1.cell b0
    have zz := hx1.size
    have hX := hx0.trans hx1
    have zd : w1.drew.heap.size = w1.heap.size := rfl
    clear hx1 hx0 b0 r0 r1 q0 q1
    go_wp2
    go_region_with (first
      | (go_at_call 85; refine (l01Own2_any t _ _ (hv.ext ((hX.drew).trans hx2))).mono ?_; rintro e w3 ⟨v3, rfl, hr3, hx3⟩; obtain ⟨-, b3, o3, c3, rfl, -⟩ := id hr3; replace b1 := hx3.cell b1; replace f1 := hx3.cell f1; replace f3 := hx3.cell f3; replace f2 := hx3.free f2 (by simp only []; have := hx2.size; omega); replace f4 := hx3.free f4 (by simp only []; have := hx2.size; omega))
      | (go_at_call 86; refine (l01Turn_any t _ _ (hv.ext ((hX.drew).trans hx2)) hG.1).mono ?_; rintro e w3 ⟨v3, rfl, hr3, hx3⟩; obtain ⟨-, b3, o3, c3, rfl, -⟩ := id hr3; replace b1 := hx3.cell b1; replace f1 := hx3.cell f1; replace f3 := hx3.cell f3; replace f2 := hx3.free f2 (by simp only []; have := hx2.size; omega); replace f4 := hx3.free f4 (by simp only []; have := hx2.size; omega))
      | (go_at_call 85; refine (l01Own2_any t _ _ (hv.ext hX.drew)).mono ?_; rintro e w2 ⟨v2, rfl, hr2, hx2⟩; obtain ⟨-, b2, o2, c2, rfl, -⟩ := id hr2; replace b1 := hx2.cell (show w1.drew.cell? _ = some _ from b1); replace f1 := hx2.cell (show w1.drew.cell? _ = some _ from f1); replace f3 := hx2.cell (show w1.drew.cell? _ = some _ from f3); replace f2 := hx2.free (show w1.drew.frozen? _ = false from f2) (by simp only []; omega); replace f4 := hx2.free (show w1.drew.frozen? _ = false from f4) (by simp only []; omega))
      | (go_at_call 86; refine (l01Turn_any t _ _ (hv.ext hX.drew) hG.1).mono ?_; rintro e w2 ⟨v2, rfl, hr2, hx2⟩; obtain ⟨-, b2, o2, c2, rfl, -⟩ := id hr2; replace b1 := hx2.cell (show w1.drew.cell? _ = some _ from b1); replace f1 := hx2.cell (show w1.drew.cell? _ = some _ from f1); replace f3 := hx2.cell (show w1.drew.cell? _ = some _ from f3); replace f2 := hx2.free (show w1.drew.frozen? _ = false from f2) (by simp only []; omega); replace f4 := hx2.free (show w1.drew.frozen? _ = false from f4) (by simp only []; omega)))
    all_goals
      go_wp2
      first
        | exact bodyPost_ret (v := .tuple #[.agg #[.slice (some ⟨b2, o2, none⟩) t.length c2, .slice (some ⟨b3, o3, none⟩) (turnT t).length c3], .int .i64 0]) (by simp [results, Try.results40, go_sem, f1, f3]) rfl ⟨_, _, rfl, ⟨(rows_set2 (hr2.ext hx3) f1 f3 _ _).toR, (rows_set2 hr3 f1 f3 _ _).toR⟩, ((((hX.drew).trans hx2).trans hx3).setNew (by simp only []; omega) _).setNew (by simp only []; omega) _⟩
        | exact bodyPost_ret (v := .tuple #[.agg #[.slice (some ⟨b3, o3, none⟩) t.length c3, .slice (some ⟨b2, o2, none⟩) (turnT t).length c2], .int .i64 0]) (by simp [results, Try.results40, go_sem, f1, f3]) rfl ⟨_, _, rfl, ⟨(rows_set2 hr3 f1 f3 _ _).toR, (rows_set2 (hr2.ext hx3) f1 f3 _ _).toR⟩, ((((hX.drew).trans hx2).trans hx3).setNew (by simp only []; omega) _).setNew (by simp only []; omega) _⟩

set_option maxRecDepth 100000 in
set_option maxHeartbeats 1000000 in
theorem TurnedBrace_impl (t : List (List Int)) (v : Value) (w : World) (hv : Rows w v t) :
    Calls Try.prog 41 #[.agg #[v]] w (NewBC (ifG t t []) (ifG t (turnT t) []) (codeG t) w) := by
  obtain ⟨hlen, b, o, c, rfl, hc⟩ := id hv
  have hx0 : Ext w ((w.alloc (.cells #[.slice (some ⟨b, o, none⟩) t.length c] 29)).alloc (.cells #[.slice none 0 0, .slice none 0 0] 41)) := ((Ext.refl _).alloc _).alloc _
  have b0 : ((w.alloc (.cells #[.slice (some ⟨b, o, none⟩) t.length c] 29)).alloc (.cells #[.slice none 0 0, .slice none 0 0] 41)).cell? ⟨w.heap.size, 0, none⟩ = some (.slice (some ⟨b, o, none⟩) t.length c) := by simp [go_sem]
  have r0 : ((w.alloc (.cells #[.slice (some ⟨b, o, none⟩) t.length c] 29)).alloc (.cells #[.slice none 0 0, .slice none 0 0] 41)).cell? ⟨w.heap.size + 1, 0, none⟩ = some (.slice none 0 0) := by simp [go_sem]
  have q0 : ((w.alloc (.cells #[.slice (some ⟨b, o, none⟩) t.length c] 29)).alloc (.cells #[.slice none 0 0, .slice none 0 0] 41)).frozen? ⟨w.heap.size + 1, 0, none⟩ = false := by simp [go_sem]
  have r1 : ((w.alloc (.cells #[.slice (some ⟨b, o, none⟩) t.length c] 29)).alloc (.cells #[.slice none 0 0, .slice none 0 0] 41)).cell? ⟨w.heap.size + 1, 1, none⟩ = some (.slice none 0 0) := by simp [go_sem]
  have q1 : ((w.alloc (.cells #[.slice (some ⟨b, o, none⟩) t.length c] 29)).alloc (.cells #[.slice none 0 0, .slice none 0 0] 41)).frozen? ⟨w.heap.size + 1, 1, none⟩ = false := by simp [go_sem]
  have z0 : w.heap.size + 2 = ((w.alloc (.cells #[.slice (some ⟨b, o, none⟩) t.length c] 29)).alloc (.cells #[.slice none 0 0, .slice none 0 0] 41)).heap.size := by simp
  cases hg : groupB t with
  | false =>
    rw [ifG_no hg, codeG_no hg]
    try rw [ifG_no hg]
    go_enter Try.func41, Try.ntmps41
    go_wp2_with fail
    generalize ((w.alloc (.cells #[.slice (some ⟨b, o, none⟩) t.length c] 29)).alloc (.cells #[.slice none 0 0, .slice none 0 0] 41)) = A at *
    refine (IsGroup_impl t _ _ (hv.ext hx0)).mono ?_
    rintro e w1 ⟨rfl, hx1⟩
    rw [hg]
    have f1 := hx1.cell r0
    have f2 := hx1.free q0 (by simp only []; omega)
    have f3 := hx1.cell r1
    have f4 := hx1.free q1 (by simp only []; omega)
    have zz := hx1.size
    go_wp2
    refine bodyPost_ret (v := .tuple #[.agg #[.slice none 0 0, .slice none 0 0], .int .i64 1]) (by simp [results, Try.results41, go_sem, f1, f3]) rfl ⟨_, _, rfl, ?_, ((hx0.trans hx1).setNew (by simp only []; omega) _).setNew (by simp only []; omega) _⟩
    exact OwnB.nil _ _ _ (by simp; omega)
  | true =>
    have hG := groupB_iff.1 hg
    rw [ifG_yes hg, codeG_yes hg]
    try rw [ifG_yes hg]
    go_enter Try.func41, Try.ntmps41
    go_wp2_with fail
    generalize ((w.alloc (.cells #[.slice (some ⟨b, o, none⟩) t.length c] 29)).alloc (.cells #[.slice none 0 0, .slice none 0 0] 41)) = A at *
    refine (IsGroup_impl t _ _ (hv.ext hx0)).mono ?_
    rintro e w1 ⟨rfl, hx1⟩
    rw [hg]
    have f1 := hx1.cell r0
    have f2 := hx1.free q0 (by simp only []; omega)
    have f3 := hx1.cell r1
    have f4 := hx1.free q1 (by simp only []; omega)
    have b1 := hx1.cell b0
    have zz := hx1.size
    have hX := hx0.trans hx1
    have zd : w1.drew.heap.size = w1.heap.size := rfl
    clear hx1 hx0 b0 r0 r1 q0 q1
    go_wp2
    go_region_with (first
      | (go_at_call 87; refine (cloneTable_any t _ _ (hv.ext ((hX.drew).trans hx2))).mono ?_; rintro e w3 ⟨b3, c3, rfl, ho3, hx3⟩; replace b1 := hx3.cell b1; replace f1 := hx3.cell f1; replace f3 := hx3.cell f3; replace f2 := hx3.free f2 (by simp only []; have := hx2.size; omega); replace f4 := hx3.free f4 (by simp only []; have := hx2.size; omega))
      | (go_at_call 88; refine (transposed_any t _ _ (hv.ext ((hX.drew).trans hx2)) hG.1).mono ?_; rintro e w3 ⟨b3, c3, rfl, ho3, hx3⟩; replace b1 := hx3.cell b1; replace f1 := hx3.cell f1; replace f3 := hx3.cell f3; replace f2 := hx3.free f2 (by simp only []; have := hx2.size; omega); replace f4 := hx3.free f4 (by simp only []; have := hx2.size; omega))
      | (go_at_call 87; refine (cloneTable_any t _ _ (hv.ext hX.drew)).mono ?_; rintro e w2 ⟨b2, c2, rfl, ho2, hx2⟩; replace b1 := hx2.cell (show w1.drew.cell? _ = some _ from b1); replace f1 := hx2.cell (show w1.drew.cell? _ = some _ from f1); replace f3 := hx2.cell (show w1.drew.cell? _ = some _ from f3); replace f2 := hx2.free (show w1.drew.frozen? _ = false from f2) (by simp only []; omega); replace f4 := hx2.free (show w1.drew.frozen? _ = false from f4) (by simp only []; omega))
      | (go_at_call 88; refine (transposed_any t _ _ (hv.ext hX.drew) hG.1).mono ?_; rintro e w2 ⟨b2, c2, rfl, ho2, hx2⟩; replace b1 := hx2.cell (show w1.drew.cell? _ = some _ from b1); replace f1 := hx2.cell (show w1.drew.cell? _ = some _ from f1); replace f3 := hx2.cell (show w1.drew.cell? _ = some _ from f3); replace f2 := hx2.free (show w1.drew.frozen? _ = false from f2) (by simp only []; omega); replace f4 := hx2.free (show w1.drew.frozen? _ = false from f4) (by simp only []; omega)))
    all_goals
      go_wp2
      first
        | exact bodyPost_ret (v := .tuple #[.agg #[.slice (some ⟨b2, 0, none⟩) t.length c2, .slice (some ⟨b3, 0, none⟩) (turnT t).length c3], .int .i64 0]) (by simp [results, Try.results41, go_sem, f1, f3]) rfl ⟨_, _, rfl, ⟨w1.drew.heap.size, w2.heap.size, w2.heap.size, w3.heap.size, by omega, by have := hx3.size; simp; omega, by have := hx2.size; omega, by simp, .inl (Nat.le_refl _), ((OwnV.ext (ho2.v hv.small c2) hx3 (Nat.le_refl _)).set2 (by omega) _ _), ((ho3.v (small_turnT (by omega)) c3).set2 (by have := hx2.size; omega) _ _)⟩, ((((hX.drew).trans hx2).trans hx3).setNew (by simp only []; omega) _).setNew (by simp only []; omega) _⟩
        | exact bodyPost_ret (v := .tuple #[.agg #[.slice (some ⟨b3, 0, none⟩) t.length c3, .slice (some ⟨b2, 0, none⟩) (turnT t).length c2], .int .i64 0]) (by simp [results, Try.results41, go_sem, f1, f3]) rfl ⟨_, _, rfl, ⟨w2.heap.size, w3.heap.size, w1.drew.heap.size, w2.heap.size, by have := hx2.size; omega, by simp, by omega, by have := hx3.size; simp; omega, .inr (Nat.le_refl _), ((ho3.v hv.small c3).set2 (by have := hx2.size; omega) _ _), ((OwnV.ext (ho2.v (small_turnT (by omega)) c2) hx3 (Nat.le_refl _)).set2 (by omega) _ _)⟩, ((((hX.drew).trans hx2).trans hx3).setNew (by simp only []; omega) _).setNew (by simp only []; omega) _⟩

end Go.Proofs.Ytncmfbebdbchbaa
