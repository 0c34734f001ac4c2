/-
  Contracts of OppositeBrace: reference and program.
-/
import Derived.Test.YtjcpeenalbgacaaProg
import Derived.Deep.DeepCutAuto
import Derived.Deep.RegionWith
import Derived.Deep.RegionHeld3
import Derived.Deep.DrawnRows
import Derived.Test.YtjcpeenalbgacaaBase
import Derived.Test.YtjcpeenalbgacaaBase2
import Derived.Test.YtjcpeenalbgacaaRet
import Derived.Test.YtjcpeenalbgacaaSteps
import Derived.Test.YtjcpeenalbgacaaGrow
import Derived.Test.YtjcpeenalbgacaaGrowR
import Derived.Test.YtjcpeenalbgacaaPure1
import Derived.Test.YtjcpeenalbgacaaPureOrd
import Derived.Test.YtjcpeenalbgacaaPureInv
import Derived.Test.YtjcpeenalbgacaaPureTurn
import Derived.Test.YtjcpeenalbgacaaPureConj
import Derived.Test.YtjcpeenalbgacaaPureBr
import Derived.Test.YtjcpeenalbgacaaW1
import Derived.Test.YtjcpeenalbgacaaW3
import Derived.Test.YtjcpeenalbgacaaW6
import Derived.Test.YtjcpeenalbgacaaW7
import Derived.Test.YtjcpeenalbgacaaW8
import Derived.Test.YtjcpeenalbgacaaW11
import Derived.Test.YtjcpeenalbgacaaW12
import Derived.Test.YtjcpeenalbgacaaW13
import Derived.Test.YtjcpeenalbgacaaW20
import Derived.Test.YtjcpeenalbgacaaW21
import Derived.Test.YtjcpeenalbgacaaW25
import Derived.Test.YtjcpeenalbgacaaW26
import Derived.Test.YtjcpeenalbgacaaW28
import Derived.Test.YtjcpeenalbgacaaW29
import Derived.Test.YtjcpeenalbgacaaK2
import Derived.Test.YtjcpeenalbgacaaK3
namespace Go.Proofs.Ytjcpeenalbgacaa
set_option linter.unusedVariables false
set_option linter.unusedSimpArgs false
open Go.RowKit
attribute [local go_sem ↓] Go.wp_at_zero Go.wp_at_succ

set_option maxRecDepth 100000 in
set_option maxHeartbeats 2000000 in
theorem OppositeBrace_spec (t u : List (List Int)) (v y : Value) (w : World) (hv : Rows w v t) (hy : Rows w y u) :
    Calls Try.prog 24 #[.agg #[v, y]] w (RetB (ifB t u (turnT t) []) (ifB t u u []) (codeB t u) w) := by
  obtain ⟨hlen, b, o, c, rfl, -⟩ := id hv
  obtain ⟨hlen2, b2, o2, c2, rfl, -⟩ := id hy
  have hX : Ext w ((w.alloc (.cells #[.slice (some ⟨b, o, none⟩) t.length c, .slice (some ⟨b2, o2, none⟩) u.length c2] 29)).alloc (.cells #[.slice none 0 0, .slice none 0 0] 29)) := ((Ext.refl _).alloc _).alloc _
  have k0 : ((w.alloc (.cells #[.slice (some ⟨b, o, none⟩) t.length c, .slice (some ⟨b2, o2, none⟩) u.length c2] 29)).alloc (.cells #[.slice none 0 0, .slice none 0 0] 29)).cell? ⟨w.heap.size, 0, none⟩ = some (.slice (some ⟨b, o, none⟩) t.length c) := by simp [go_sem]
  have k1 : ((w.alloc (.cells #[.slice (some ⟨b, o, none⟩) t.length c, .slice (some ⟨b2, o2, none⟩) u.length c2] 29)).alloc (.cells #[.slice none 0 0, .slice none 0 0] 29)).cell? ⟨w.heap.size, 1, none⟩ = some (.slice (some ⟨b2, o2, none⟩) u.length c2) := by simp [go_sem]
  have r0 : ((w.alloc (.cells #[.slice (some ⟨b, o, none⟩) t.length c, .slice (some ⟨b2, o2, none⟩) u.length c2] 29)).alloc (.cells #[.slice none 0 0, .slice none 0 0] 29)).cell? ⟨w.heap.size + 1, 0, none⟩ = some (.slice none 0 0) := by simp [go_sem]
  have r1 : ((w.alloc (.cells #[.slice (some ⟨b, o, none⟩) t.length c, .slice (some ⟨b2, o2, none⟩) u.length c2] 29)).alloc (.cells #[.slice none 0 0, .slice none 0 0] 29)).cell? ⟨w.heap.size + 1, 1, none⟩ = some (.slice none 0 0) := by simp [go_sem]
  have q0 : ((w.alloc (.cells #[.slice (some ⟨b, o, none⟩) t.length c, .slice (some ⟨b2, o2, none⟩) u.length c2] 29)).alloc (.cells #[.slice none 0 0, .slice none 0 0] 29)).frozen? ⟨w.heap.size + 1, 0, none⟩ = false := by simp [go_sem]
  have q1 : ((w.alloc (.cells #[.slice (some ⟨b, o, none⟩) t.length c, .slice (some ⟨b2, o2, none⟩) u.length c2] 29)).alloc (.cells #[.slice none 0 0, .slice none 0 0] 29)).frozen? ⟨w.heap.size + 1, 1, none⟩ = false := by simp [go_sem]
  have zA : w.heap.size + 2 ≤ ((w.alloc (.cells #[.slice (some ⟨b, o, none⟩) t.length c, .slice (some ⟨b2, o2, none⟩) u.length c2] 29)).alloc (.cells #[.slice none 0 0, .slice none 0 0] 29)).heap.size := by simp
  cases hb : braceB t u with
  | false =>
    rw [ifB_no hb, ifB_no hb, codeB_no hb]
    go_enter Try.func24, Try.ntmps24
    go_wp2_with fail
    generalize ((w.alloc (.cells #[.slice (some ⟨b, o, none⟩) t.length c, .slice (some ⟨b2, o2, none⟩) u.length c2] 29)).alloc (.cells #[.slice none 0 0, .slice none 0 0] 29)) = A at *
    refine (l11Is_any t u _ _ _ (hv.ext hX) (hy.ext hX)).mono ?_
    rintro e w2 ⟨rfl, hx⟩
    rw [hb]
    have zz := Ext.size hx
    replace q0 := hx.free q0 (by simp only []; omega)
    replace q1 := hx.free q1 (by simp only []; omega)
    replace zA := Nat.le_trans zA zz
    replace hX := hX.trans hx
    replace k0 := hx.cell k0
    replace k1 := hx.cell k1
    replace r0 := hx.cell r0
    replace r1 := hx.cell r1
    clear hx zz
    go_wp2
    refine bodyPost_ret (v := .tuple #[.agg #[.slice none 0 0, .slice none 0 0], .int .i64 1]) (by simp [results, Try.results24, go_sem, r0, r1]) rfl ⟨_, _, rfl, RowsB.nil _ _ _, (hX.setNew (by simp only []; omega) _).setNew (by simp only []; omega) _⟩
  | true =>
    obtain ⟨hG, hU, hL⟩ := braceB_ok hb
    rw [ifB_yes hb, ifB_yes hb, codeB_yes hb]
    have HG := Lib.hid hG
    have HU := Lib.hid hU
    have h12 := hG.1.2.1
    have h12u := hU.1.2.1
    have hsv := Lib.hid hv.small
    have hsy := Lib.hid hy.small
    clear hG hU hL
    go_enter Try.func24, Try.ntmps24
    go_wp2_with fail
    generalize ((w.alloc (.cells #[.slice (some ⟨b, o, none⟩) t.length c, .slice (some ⟨b2, o2, none⟩) u.length c2] 29)).alloc (.cells #[.slice none 0 0, .slice none 0 0] 29)) = A at *
    refine (l11Is_any t u _ _ _ (hv.ext hX) (hy.ext hX)).mono ?_
    rintro e w2 ⟨rfl, hx⟩
    rw [hb]
    have zz := Ext.size hx
    replace q0 := hx.free q0 (by simp only []; omega)
    replace q1 := hx.free q1 (by simp only []; omega)
    replace zA := Nat.le_trans zA zz
    replace hX := hX.trans hx
    replace k0 := hx.cell k0
    replace k1 := hx.cell k1
    replace r0 := hx.cell r0
    replace r1 := hx.cell r1
    clear hx zz
    clear hb
    have zd : w2.drew.heap.size = w2.heap.size := rfl
    go_wp2
    go_region_with (first
      | (go_at_call 67; refine (l01Turn_any t _ _ (hv.ext ((hX.drew).trans hxB)) HG.out.1).mono ?_; rintro e wA ⟨vA, rfl, hrA, hxA⟩; obtain ⟨-, bA, oA, cA, rfl, -⟩ := id hrA; replace k0 := hxA.cell k0; replace k1 := hxA.cell k1; replace r0 := hxA.cell r0; replace r1 := hxA.cell r1; replace q0 := hxA.free q0 (by simp only []; have := hxB.size; omega); replace q1 := hxA.free q1 (by simp only []; have := hxB.size; omega))
      | (go_at_call 68; refine (l01Own2_any u _ _ (hy.ext ((hX.drew).trans hxA))).mono ?_; rintro e wB ⟨vB, rfl, hrB, hxB⟩; obtain ⟨-, bB, oB, cB, rfl, -⟩ := id hrB; replace k0 := hxB.cell k0; replace k1 := hxB.cell k1; replace r0 := hxB.cell r0; replace r1 := hxB.cell r1; replace q0 := hxB.free q0 (by simp only []; have := hxA.size; omega); replace q1 := hxB.free q1 (by simp only []; have := hxA.size; omega))
      | (go_at_call 67; refine (l01Turn_any t _ _ (hv.ext hX.drew) HG.out.1).mono ?_; rintro e wA ⟨vA, rfl, hrA, hxA⟩; obtain ⟨-, bA, oA, cA, rfl, -⟩ := id hrA; replace k0 := hxA.cell (show w2.drew.cell? _ = some _ from k0); replace k1 := hxA.cell (show w2.drew.cell? _ = some _ from k1); replace r0 := hxA.cell (show w2.drew.cell? _ = some _ from r0); replace r1 := hxA.cell (show w2.drew.cell? _ = some _ from r1); replace q0 := hxA.free (show w2.drew.frozen? _ = false from q0) (by simp only []; omega); replace q1 := hxA.free (show w2.drew.frozen? _ = false from q1) (by simp only []; omega))
      | (go_at_call 68; refine (l01Own2_any u _ _ (hy.ext hX.drew)).mono ?_; rintro e wB ⟨vB, rfl, hrB, hxB⟩; obtain ⟨-, bB, oB, cB, rfl, -⟩ := id hrB; replace k0 := hxB.cell (show w2.drew.cell? _ = some _ from k0); replace k1 := hxB.cell (show w2.drew.cell? _ = some _ from k1); replace r0 := hxB.cell (show w2.drew.cell? _ = some _ from r0); replace r1 := hxB.cell (show w2.drew.cell? _ = some _ from r1); replace q0 := hxB.free (show w2.drew.frozen? _ = false from q0) (by simp only []; omega); replace q1 := hxB.free (show w2.drew.frozen? _ = false from q1) (by simp only []; omega)))
    all_goals
      go_wp2
      first
        | exact bodyPost_ret (v := .tuple #[.agg #[.slice (some ⟨bA, oA, none⟩) (turnT t).length cA, .slice (some ⟨bB, oB, none⟩) u.length cB], .int .i64 0]) (by simp [results, Try.results24, go_sem, r0, r1]) rfl ⟨_, _, rfl, ⟨(rows_set2 (hrA.ext hxB) r0 r1 _ _).toR, (rows_set2 hrB r0 r1 _ _).toR⟩, ((((hX.drew).trans hxA).trans hxB).setNew (by simp only []; omega) _).setNew (by simp only []; omega) _⟩
        | exact bodyPost_ret (v := .tuple #[.agg #[.slice (some ⟨bA, oA, none⟩) (turnT t).length cA, .slice (some ⟨bB, oB, none⟩) u.length cB], .int .i64 0]) (by simp [results, Try.results24, go_sem, r0, r1]) rfl ⟨_, _, rfl, ⟨(rows_set2 hrA r0 r1 _ _).toR, (rows_set2 (hrB.ext hxA) r0 r1 _ _).toR⟩, ((((hX.drew).trans hxB).trans hxA).setNew (by simp only []; omega) _).setNew (by simp only []; omega) _⟩

set_option maxRecDepth 100000 in
set_option maxHeartbeats 2000000 in
theorem OppositeBrace_impl (t u : List (List Int)) (v y : Value) (w : World) (hv : Rows w v t) (hy : Rows w y u) :
    Calls Try.prog 25 #[.agg #[v, y]] w (NewBC (ifB t u (turnT t) []) (ifB t u u []) (codeB t u) w) := by
  obtain ⟨hlen, b, o, c, rfl, -⟩ := id hv
  obtain ⟨hlen2, b2, o2, c2, rfl, -⟩ := id hy
  have hX : Ext w ((w.alloc (.cells #[.slice (some ⟨b, o, none⟩) t.length c, .slice (some ⟨b2, o2, none⟩) u.length c2] 29)).alloc (.cells #[.slice none 0 0, .slice none 0 0] 29)) := ((Ext.refl _).alloc _).alloc _
  have k0 : ((w.alloc (.cells #[.slice (some ⟨b, o, none⟩) t.length c, .slice (some ⟨b2, o2, none⟩) u.length c2] 29)).alloc (.cells #[.slice none 0 0, .slice none 0 0] 29)).cell? ⟨w.heap.size, 0, none⟩ = some (.slice (some ⟨b, o, none⟩) t.length c) := by simp [go_sem]
  have k1 : ((w.alloc (.cells #[.slice (some ⟨b, o, none⟩) t.length c, .slice (some ⟨b2, o2, none⟩) u.length c2] 29)).alloc (.cells #[.slice none 0 0, .slice none 0 0] 29)).cell? ⟨w.heap.size, 1, none⟩ = some (.slice (some ⟨b2, o2, none⟩) u.length c2) := by simp [go_sem]
  have r0 : ((w.alloc (.cells #[.slice (some ⟨b, o, none⟩) t.length c, .slice (some ⟨b2, o2, none⟩) u.length c2] 29)).alloc (.cells #[.slice none 0 0, .slice none 0 0] 29)).cell? ⟨w.heap.size + 1, 0, none⟩ = some (.slice none 0 0) := by simp [go_sem]
  have r1 : ((w.alloc (.cells #[.slice (some ⟨b, o, none⟩) t.length c, .slice (some ⟨b2, o2, none⟩) u.length c2] 29)).alloc (.cells #[.slice none 0 0, .slice none 0 0] 29)).cell? ⟨w.heap.size + 1, 1, none⟩ = some (.slice none 0 0) := by simp [go_sem]
  have q0 : ((w.alloc (.cells #[.slice (some ⟨b, o, none⟩) t.length c, .slice (some ⟨b2, o2, none⟩) u.length c2] 29)).alloc (.cells #[.slice none 0 0, .slice none 0 0] 29)).frozen? ⟨w.heap.size + 1, 0, none⟩ = false := by simp [go_sem]
  have q1 : ((w.alloc (.cells #[.slice (some ⟨b, o, none⟩) t.length c, .slice (some ⟨b2, o2, none⟩) u.length c2] 29)).alloc (.cells #[.slice none 0 0, .slice none 0 0] 29)).frozen? ⟨w.heap.size + 1, 1, none⟩ = false := by simp [go_sem]
  have zA : w.heap.size + 2 ≤ ((w.alloc (.cells #[.slice (some ⟨b, o, none⟩) t.length c, .slice (some ⟨b2, o2, none⟩) u.length c2] 29)).alloc (.cells #[.slice none 0 0, .slice none 0 0] 29)).heap.size := by simp
  cases hb : braceB t u with
  | false =>
    rw [ifB_no hb, ifB_no hb, codeB_no hb]
    go_enter Try.func25, Try.ntmps25
    go_wp2_with fail
    generalize ((w.alloc (.cells #[.slice (some ⟨b, o, none⟩) t.length c, .slice (some ⟨b2, o2, none⟩) u.length c2] 29)).alloc (.cells #[.slice none 0 0, .slice none 0 0] 29)) = A at *
    refine (IsBrace_impl t u _ _ _ (hv.ext hX) (hy.ext hX)).mono ?_
    rintro e w2 ⟨rfl, hx⟩
    rw [hb]
    have zz := Ext.size hx
    replace q0 := hx.free q0 (by simp only []; omega)
    replace q1 := hx.free q1 (by simp only []; omega)
    replace zA := Nat.le_trans zA zz
    replace hX := hX.trans hx
    replace k0 := hx.cell k0
    replace k1 := hx.cell k1
    replace r0 := hx.cell r0
    replace r1 := hx.cell r1
    clear hx zz
    go_wp2
    refine bodyPost_ret (v := .tuple #[.agg #[.slice none 0 0, .slice none 0 0], .int .i64 1]) (by simp [results, Try.results25, go_sem, r0, r1]) rfl ⟨_, _, rfl, OwnB.nil _ _ _ (by simp; omega), (hX.setNew (by simp only []; omega) _).setNew (by simp only []; omega) _⟩
  | true =>
    obtain ⟨hG, hU, hL⟩ := braceB_ok hb
    rw [ifB_yes hb, ifB_yes hb, codeB_yes hb]
    have HG := Lib.hid hG
    have HU := Lib.hid hU
    have h12 := hG.1.2.1
    have h12u := hU.1.2.1
    have hsv := Lib.hid hv.small
    have hsy := Lib.hid hy.small
    clear hG hU hL
    go_enter Try.func25, Try.ntmps25
    go_wp2_with fail
    generalize ((w.alloc (.cells #[.slice (some ⟨b, o, none⟩) t.length c, .slice (some ⟨b2, o2, none⟩) u.length c2] 29)).alloc (.cells #[.slice none 0 0, .slice none 0 0] 29)) = A at *
    refine (IsBrace_impl t u _ _ _ (hv.ext hX) (hy.ext hX)).mono ?_
    rintro e w2 ⟨rfl, hx⟩
    rw [hb]
    have zz := Ext.size hx
    replace q0 := hx.free q0 (by simp only []; omega)
    replace q1 := hx.free q1 (by simp only []; omega)
    replace zA := Nat.le_trans zA zz
    replace hX := hX.trans hx
    replace k0 := hx.cell k0
    replace k1 := hx.cell k1
    replace r0 := hx.cell r0
    replace r1 := hx.cell r1
    clear hx zz
    clear hb
    have zd : w2.drew.heap.size = w2.heap.size := rfl
    go_wp2
    go_region_with (first
      | (go_at_call 69; refine (transposed_any t _ _ (hv.ext ((hX.drew).trans hxB)) HG.out.1).mono ?_; rintro e wA ⟨bA, cA, rfl, hoA, hxA⟩; replace k0 := hxA.cell k0; replace k1 := hxA.cell k1; replace r0 := hxA.cell r0; replace r1 := hxA.cell r1; replace q0 := hxA.free q0 (by simp only []; have := hxB.size; omega); replace q1 := hxA.free q1 (by simp only []; have := hxB.size; omega))
      | (go_at_call 70; refine (cloneTable_any u _ _ (hy.ext ((hX.drew).trans hxA))).mono ?_; rintro e wB ⟨bB, cB, rfl, hoB, hxB⟩; replace k0 := hxB.cell k0; replace k1 := hxB.cell k1; replace r0 := hxB.cell r0; replace r1 := hxB.cell r1; replace q0 := hxB.free q0 (by simp only []; have := hxA.size; omega); replace q1 := hxB.free q1 (by simp only []; have := hxA.size; omega))
      | (go_at_call 69; refine (transposed_any t _ _ (hv.ext hX.drew) HG.out.1).mono ?_; rintro e wA ⟨bA, cA, rfl, hoA, hxA⟩; replace k0 := hxA.cell (show w2.drew.cell? _ = some _ from k0); replace k1 := hxA.cell (show w2.drew.cell? _ = some _ from k1); replace r0 := hxA.cell (show w2.drew.cell? _ = some _ from r0); replace r1 := hxA.cell (show w2.drew.cell? _ = some _ from r1); replace q0 := hxA.free (show w2.drew.frozen? _ = false from q0) (by simp only []; omega); replace q1 := hxA.free (show w2.drew.frozen? _ = false from q1) (by simp only []; omega))
      | (go_at_call 70; refine (cloneTable_any u _ _ (hy.ext hX.drew)).mono ?_; rintro e wB ⟨bB, cB, rfl, hoB, hxB⟩; replace k0 := hxB.cell (show w2.drew.cell? _ = some _ from k0); replace k1 := hxB.cell (show w2.drew.cell? _ = some _ from k1); replace r0 := hxB.cell (show w2.drew.cell? _ = some _ from r0); replace r1 := hxB.cell (show w2.drew.cell? _ = some _ from r1); replace q0 := hxB.free (show w2.drew.frozen? _ = false from q0) (by simp only []; omega); replace q1 := hxB.free (show w2.drew.frozen? _ = false from q1) (by simp only []; omega)))
    all_goals
      go_wp2
      first
        | exact bodyPost_ret (v := .tuple #[.agg #[.slice (some ⟨bA, 0, none⟩) (turnT t).length cA, .slice (some ⟨bB, 0, none⟩) u.length cB], .int .i64 0]) (by simp [results, Try.results25, go_sem, r0, r1]) rfl ⟨_, _, rfl, ⟨w2.drew.heap.size, wA.heap.size, wA.heap.size, wB.heap.size, by omega, by have := hxB.size; simp; omega, by have := hxA.size; omega, by simp, .inl (Nat.le_refl _), ((OwnV.ext (hoA.v (small_turnT (by omega)) cA) hxB (Nat.le_refl _)).set2 (by omega) _ _), ((hoB.v hsy.out cB).set2 (by have := hxA.size; omega) _ _)⟩, ((((hX.drew).trans hxA).trans hxB).setNew (by simp only []; omega) _).setNew (by simp only []; omega) _⟩
        | exact bodyPost_ret (v := .tuple #[.agg #[.slice (some ⟨bA, 0, none⟩) (turnT t).length cA, .slice (some ⟨bB, 0, none⟩) u.length cB], .int .i64 0]) (by simp [results, Try.results25, go_sem, r0, r1]) rfl ⟨_, _, rfl, ⟨wB.heap.size, wA.heap.size, w2.drew.heap.size, wB.heap.size, by have := hxB.size; omega, by simp, by omega, by have := hxA.size; simp; omega, .inr (Nat.le_refl _), ((hoA.v (small_turnT (by omega)) cA).set2 (by have := hxB.size; omega) _ _), ((OwnV.ext (hoB.v hsy.out cB) hxA (Nat.le_refl _)).set2 (by omega) _ _)⟩, ((((hX.drew).trans hxB).trans hxA).setNew (by simp only []; omega) _).setNew (by simp only []; omega) _⟩

end Go.Proofs.Ytjcpeenalbgacaa
