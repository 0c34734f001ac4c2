/-
  Contracts of ProductBrace: reference and program.
-/
import Derived.Test.YtncmfbebdbchbaaProg
import Derived.Deep.DeepCutAuto
import Derived.Deep.RegionWith
import Derived.Deep.RegionHeld3
import Derived.Deep.DrawnRows
import Derived.Test.YtncmfbebdbchbaaBase
import Derived.Test.YtncmfbebdbchbaaBase2
import Derived.Test.YtncmfbebdbchbaaRet
import Derived.Test.YtncmfbebdbchbaaSteps
import Derived.Test.YtncmfbebdbchbaaGrow
import Derived.Test.YtncmfbebdbchbaaGrowR
import Derived.Test.YtncmfbebdbchbaaPure1
import Derived.Test.YtncmfbebdbchbaaPureOrd
import Derived.Test.YtncmfbebdbchbaaPureInv
import Derived.Test.YtncmfbebdbchbaaPureTurn
import Derived.Test.YtncmfbebdbchbaaPureConj
import Derived.Test.YtncmfbebdbchbaaPureBr
import Derived.Test.YtncmfbebdbchbaaPureProd
import Derived.Test.YtncmfbebdbchbaaW1
import Derived.Test.YtncmfbebdbchbaaW3
import Derived.Test.YtncmfbebdbchbaaW6
import Derived.Test.YtncmfbebdbchbaaW8
import Derived.Test.YtncmfbebdbchbaaW11
import Derived.Test.YtncmfbebdbchbaaW12
import Derived.Test.YtncmfbebdbchbaaW13
import Derived.Test.YtncmfbebdbchbaaW20
import Derived.Test.YtncmfbebdbchbaaW26
import Derived.Test.YtncmfbebdbchbaaW28
import Derived.Test.YtncmfbebdbchbaaW29
import Derived.Test.YtncmfbebdbchbaaW45
import Derived.Test.YtncmfbebdbchbaaW46
import Derived.Test.YtncmfbebdbchbaaK2
import Derived.Test.YtncmfbebdbchbaaK3
import Derived.Test.YtncmfbebdbchbaaK5
namespace Go.Proofs.Ytncmfbebdbchbaa
set_option linter.unusedVariables false
set_option linter.unusedSimpArgs false
open Go.RowKit
attribute [local go_sem ↓] Go.wp_at_zero Go.wp_at_succ

/-- the code of a product of braces; its tables -/
@[irreducible] noncomputable def pbC (t u a d : List (List Int)) : Int := if braceB t u = true ∧ braceB a d = true then (if t.length * a.length ≤ 12 then 0 else 3) else 1
@[irreducible] noncomputable def pbT (t u a d : List (List Int)) (x : List (List Int)) : List (List Int) := if pbC t u a d = 0 then x else []
theorem pb_1 {t u a d} (h : ¬ (braceB t u = true ∧ braceB a d = true)) : pbC t u a d = 1 ∧ ∀ x, pbT t u a d x = [] := by
  have h1 : pbC t u a d = 1 := by unfold pbC; rw [if_neg h]
  exact ⟨h1, fun x => by unfold pbT; rw [if_neg (by rw [h1]; decide)]⟩
theorem pb_3 {t u a d} (h : braceB t u = true) (h2 : braceB a d = true) (h3 : ¬ t.length * a.length ≤ 12) : pbC t u a d = 3 ∧ ∀ x, pbT t u a d x = [] := by
  have h1 : pbC t u a d = 3 := by unfold pbC; rw [if_pos ⟨h, h2⟩, if_neg h3]
  exact ⟨h1, fun x => by unfold pbT; rw [if_neg (by rw [h1]; decide)]⟩
theorem pb_0 {t u a d} (h : braceB t u = true) (h2 : braceB a d = true) (h3 : t.length * a.length ≤ 12) : pbC t u a d = 0 ∧ ∀ x, pbT t u a d x = x := by
  have h1 : pbC t u a d = 0 := by unfold pbC; rw [if_pos ⟨h, h2⟩, if_pos h3]
  exact ⟨h1, fun x => by unfold pbT; rw [if_pos h1]⟩

set_option maxRecDepth 100000 in
set_option maxHeartbeats 2000000 in
theorem ProductBrace_spec (t u a d : List (List Int)) (v y v2 y2 : Value) (w : World) (hv : Rows w v t) (hy : Rows w y u) (hv2 : Rows w v2 a) (hy2 : Rows w y2 d) :
    Calls Try.prog 53 #[.agg #[v, y], .agg #[v2, y2]] w (RetB (pbT t u a d (mkT (t.length * a.length) (prodF t a))) (pbT t u a d (mkT (t.length * a.length) (prodF u d))) (pbC t u a d) w) := by
  obtain ⟨hlen, b, o, c, rfl, -⟩ := id hv
  obtain ⟨hlen2, b2, o2, c2, rfl, -⟩ := id hy
  obtain ⟨hlen3, b3, o3, c3, rfl, -⟩ := id hv2
  obtain ⟨hlen4, b4, o4, c4, rfl, -⟩ := id hy2
  have hX : Ext w (((w.alloc (.cells #[.slice (some ⟨b, o, none⟩) t.length c, .slice (some ⟨b2, o2, none⟩) u.length c2] 41)).alloc (.cells #[.slice (some ⟨b3, o3, none⟩) a.length c3, .slice (some ⟨b4, o4, none⟩) d.length c4] 41)).alloc (.cells #[.slice none 0 0, .slice none 0 0] 41)) := (((Ext.refl _).alloc _).alloc _).alloc _
  have k0 : (((w.alloc (.cells #[.slice (some ⟨b, o, none⟩) t.length c, .slice (some ⟨b2, o2, none⟩) u.length c2] 41)).alloc (.cells #[.slice (some ⟨b3, o3, none⟩) a.length c3, .slice (some ⟨b4, o4, none⟩) d.length c4] 41)).alloc (.cells #[.slice none 0 0, .slice none 0 0] 41)).cell? ⟨w.heap.size, 0, none⟩ = some (.slice (some ⟨b, o, none⟩) t.length c) := by simp [go_sem]
  have k1 : (((w.alloc (.cells #[.slice (some ⟨b, o, none⟩) t.length c, .slice (some ⟨b2, o2, none⟩) u.length c2] 41)).alloc (.cells #[.slice (some ⟨b3, o3, none⟩) a.length c3, .slice (some ⟨b4, o4, none⟩) d.length c4] 41)).alloc (.cells #[.slice none 0 0, .slice none 0 0] 41)).cell? ⟨w.heap.size, 1, none⟩ = some (.slice (some ⟨b2, o2, none⟩) u.length c2) := by simp [go_sem]
  have d0 : (((w.alloc (.cells #[.slice (some ⟨b, o, none⟩) t.length c, .slice (some ⟨b2, o2, none⟩) u.length c2] 41)).alloc (.cells #[.slice (some ⟨b3, o3, none⟩) a.length c3, .slice (some ⟨b4, o4, none⟩) d.length c4] 41)).alloc (.cells #[.slice none 0 0, .slice none 0 0] 41)).cell? ⟨w.heap.size + 1, 0, none⟩ = some (.slice (some ⟨b3, o3, none⟩) a.length c3) := by simp [go_sem]
  have d1 : (((w.alloc (.cells #[.slice (some ⟨b, o, none⟩) t.length c, .slice (some ⟨b2, o2, none⟩) u.length c2] 41)).alloc (.cells #[.slice (some ⟨b3, o3, none⟩) a.length c3, .slice (some ⟨b4, o4, none⟩) d.length c4] 41)).alloc (.cells #[.slice none 0 0, .slice none 0 0] 41)).cell? ⟨w.heap.size + 1, 1, none⟩ = some (.slice (some ⟨b4, o4, none⟩) d.length c4) := by simp [go_sem]
  have r0 : (((w.alloc (.cells #[.slice (some ⟨b, o, none⟩) t.length c, .slice (some ⟨b2, o2, none⟩) u.length c2] 41)).alloc (.cells #[.slice (some ⟨b3, o3, none⟩) a.length c3, .slice (some ⟨b4, o4, none⟩) d.length c4] 41)).alloc (.cells #[.slice none 0 0, .slice none 0 0] 41)).cell? ⟨w.heap.size + 2, 0, none⟩ = some (.slice none 0 0) := by simp [go_sem]
  have r1 : (((w.alloc (.cells #[.slice (some ⟨b, o, none⟩) t.length c, .slice (some ⟨b2, o2, none⟩) u.length c2] 41)).alloc (.cells #[.slice (some ⟨b3, o3, none⟩) a.length c3, .slice (some ⟨b4, o4, none⟩) d.length c4] 41)).alloc (.cells #[.slice none 0 0, .slice none 0 0] 41)).cell? ⟨w.heap.size + 2, 1, none⟩ = some (.slice none 0 0) := by simp [go_sem]
  have q0 : (((w.alloc (.cells #[.slice (some ⟨b, o, none⟩) t.length c, .slice (some ⟨b2, o2, none⟩) u.length c2] 41)).alloc (.cells #[.slice (some ⟨b3, o3, none⟩) a.length c3, .slice (some ⟨b4, o4, none⟩) d.length c4] 41)).alloc (.cells #[.slice none 0 0, .slice none 0 0] 41)).frozen? ⟨w.heap.size + 2, 0, none⟩ = false := by simp [go_sem]
  have q1 : (((w.alloc (.cells #[.slice (some ⟨b, o, none⟩) t.length c, .slice (some ⟨b2, o2, none⟩) u.length c2] 41)).alloc (.cells #[.slice (some ⟨b3, o3, none⟩) a.length c3, .slice (some ⟨b4, o4, none⟩) d.length c4] 41)).alloc (.cells #[.slice none 0 0, .slice none 0 0] 41)).frozen? ⟨w.heap.size + 2, 1, none⟩ = false := by simp [go_sem]
  have zA : w.heap.size + 3 ≤ (((w.alloc (.cells #[.slice (some ⟨b, o, none⟩) t.length c, .slice (some ⟨b2, o2, none⟩) u.length c2] 41)).alloc (.cells #[.slice (some ⟨b3, o3, none⟩) a.length c3, .slice (some ⟨b4, o4, none⟩) d.length c4] 41)).alloc (.cells #[.slice none 0 0, .slice none 0 0] 41)).heap.size := by simp
  cases hb : braceB t u with
  | false =>
    rw [(pb_1 (t := t) (u := u) (a := a) (d := d) (fun h => by rw [hb] at h; cases h.1)).1, (pb_1 (t := t) (u := u) (a := a) (d := d) (fun h => by rw [hb] at h; cases h.1)).2, (pb_1 (t := t) (u := u) (a := a) (d := d) (fun h => by rw [hb] at h; cases h.1)).2]
    go_enter Try.func53, Try.ntmps53
    go_wp2_with fail
    generalize (((w.alloc (.cells #[.slice (some ⟨b, o, none⟩) t.length c, .slice (some ⟨b2, o2, none⟩) u.length c2] 41)).alloc (.cells #[.slice (some ⟨b3, o3, none⟩) a.length c3, .slice (some ⟨b4, o4, none⟩) d.length c4] 41)).alloc (.cells #[.slice none 0 0, .slice none 0 0] 41)) = A at *
    refine (l11Is_any t u _ _ _ (hv.ext hX) (hy.ext hX)).mono ?_
    rintro e w1 ⟨rfl, hx⟩
    rw [hb]
    have zz := Ext.size hx
    replace q0 := hx.free q0 (by simp only []; omega)
    replace q1 := hx.free q1 (by simp only []; omega)
    replace zA := Nat.le_trans zA zz
    replace hX := hX.trans hx
    replace k0 := hx.cell k0
    replace k1 := hx.cell k1
    replace d0 := hx.cell d0
    replace d1 := hx.cell d1
    replace r0 := hx.cell r0
    replace r1 := hx.cell r1
    clear hx zz
    go_wp2
    refine bodyPost_ret (v := .tuple #[.agg #[.slice none 0 0, .slice none 0 0], .int .i64 1]) (by simp [results, Try.results53, go_sem, r0, r1]) rfl ⟨_, _, rfl, RowsB.nil _ _ _, (hX.setNew (by simp only []; omega) _).setNew (by simp only []; omega) _⟩
  | true =>
    cases hb2 : braceB a d with
    | false =>
      rw [(pb_1 (t := t) (u := u) (a := a) (d := d) (fun h => by rw [hb2] at h; cases h.2)).1, (pb_1 (t := t) (u := u) (a := a) (d := d) (fun h => by rw [hb2] at h; cases h.2)).2, (pb_1 (t := t) (u := u) (a := a) (d := d) (fun h => by rw [hb2] at h; cases h.2)).2]
      go_enter Try.func53, Try.ntmps53
      go_wp2_with fail
      generalize (((w.alloc (.cells #[.slice (some ⟨b, o, none⟩) t.length c, .slice (some ⟨b2, o2, none⟩) u.length c2] 41)).alloc (.cells #[.slice (some ⟨b3, o3, none⟩) a.length c3, .slice (some ⟨b4, o4, none⟩) d.length c4] 41)).alloc (.cells #[.slice none 0 0, .slice none 0 0] 41)) = A at *
      refine (l11Is_any t u _ _ _ (hv.ext hX) (hy.ext hX)).mono ?_
      rintro e w1 ⟨rfl, hx⟩
      rw [hb]
      have zz := Ext.size hx
      replace q0 := hx.free q0 (by simp only []; omega)
      replace q1 := hx.free q1 (by simp only []; omega)
      replace zA := Nat.le_trans zA zz
      replace hX := hX.trans hx
      replace k0 := hx.cell k0
      replace k1 := hx.cell k1
      replace d0 := hx.cell d0
      replace d1 := hx.cell d1
      replace r0 := hx.cell r0
      replace r1 := hx.cell r1
      clear hx zz
      go_wp2_with fail
      refine (l11Is_any a d _ _ _ (hv2.ext hX) (hy2.ext hX)).mono ?_
      rintro e w2 ⟨rfl, hx⟩
      rw [hb2]
      have zz := Ext.size hx
      replace q0 := hx.free q0 (by simp only []; omega)
      replace q1 := hx.free q1 (by simp only []; omega)
      replace zA := Nat.le_trans zA zz
      replace hX := hX.trans hx
      replace k0 := hx.cell k0
      replace k1 := hx.cell k1
      replace d0 := hx.cell d0
      replace d1 := hx.cell d1
      replace r0 := hx.cell r0
      replace r1 := hx.cell r1
      clear hx zz
      go_wp2
      refine bodyPost_ret (v := .tuple #[.agg #[.slice none 0 0, .slice none 0 0], .int .i64 1]) (by simp [results, Try.results53, go_sem, r0, r1]) rfl ⟨_, _, rfl, RowsB.nil _ _ _, (hX.setNew (by simp only []; omega) _).setNew (by simp only []; omega) _⟩
    | true =>
      obtain ⟨N, hN⟩ : ∃ N : Nat, N = t.length * a.length := ⟨_, rfl⟩
      have hnm := cast_mul' t.length a.length N hN
      obtain ⟨hG, hU, hL⟩ := braceB_ok hb
      obtain ⟨hG2, hU2, hL2⟩ := braceB_ok hb2
      have HT := Lib.hid hG
      have HU := Lib.hid hU
      have HT2 := Lib.hid hG2
      have HU2 := Lib.hid hU2
      have HNU := Lib.hid (show N = u.length * d.length by rw [hN, hL, hL2])
      have hN144 : N ≤ 144 := by rw [hN]; exact Nat.mul_le_mul hG.1.2.1 hG2.1.2.1
      clear hG hU hG2 hU2 hL hL2
      by_cases hN12 : N ≤ 12
      case neg =>
        rw [(pb_3 hb hb2 (by rw [← hN]; exact hN12)).1, (pb_3 hb hb2 (by rw [← hN]; exact hN12)).2, (pb_3 hb hb2 (by rw [← hN]; exact hN12)).2]
        clear hN
        have hltN : (12 : Int) < (N : Int) := by omega
        have hltn : 12 < N := by omega
        have hdN : decide ((12 : Int) < (N : Int)) = true := by simp; omega
        go_enter Try.func53, Try.ntmps53
        go_wp2_with fail
        generalize (((w.alloc (.cells #[.slice (some ⟨b, o, none⟩) t.length c, .slice (some ⟨b2, o2, none⟩) u.length c2] 41)).alloc (.cells #[.slice (some ⟨b3, o3, none⟩) a.length c3, .slice (some ⟨b4, o4, none⟩) d.length c4] 41)).alloc (.cells #[.slice none 0 0, .slice none 0 0] 41)) = A at *
        refine (l11Is_any t u _ _ _ (hv.ext hX) (hy.ext hX)).mono ?_
        rintro e w1 ⟨rfl, hx⟩
        rw [hb]
        have zz := Ext.size hx
        replace q0 := hx.free q0 (by simp only []; omega)
        replace q1 := hx.free q1 (by simp only []; omega)
        replace zA := Nat.le_trans zA zz
        replace hX := hX.trans hx
        replace k0 := hx.cell k0
        replace k1 := hx.cell k1
        replace d0 := hx.cell d0
        replace d1 := hx.cell d1
        replace r0 := hx.cell r0
        replace r1 := hx.cell r1
        clear hx zz
        go_wp2_with fail
        refine (l11Is_any a d _ _ _ (hv2.ext hX) (hy2.ext hX)).mono ?_
        rintro e w2 ⟨rfl, hx⟩
        rw [hb2]
        have zz := Ext.size hx
        replace q0 := hx.free q0 (by simp only []; omega)
        replace q1 := hx.free q1 (by simp only []; omega)
        replace zA := Nat.le_trans zA zz
        replace hX := hX.trans hx
        replace k0 := hx.cell k0
        replace k1 := hx.cell k1
        replace d0 := hx.cell d0
        replace d1 := hx.cell d1
        replace r0 := hx.cell r0
        replace r1 := hx.cell r1
        clear hx zz
        go_wp2
        refine bodyPost_ret (v := .tuple #[.agg #[.slice none 0 0, .slice none 0 0], .int .i64 3]) (by simp [results, Try.results53, go_sem, r0, r1]) rfl ⟨_, _, rfl, RowsB.nil _ _ _, (hX.setNew (by simp only []; omega) _).setNew (by simp only []; omega) _⟩
      case pos =>
        rw [(pb_0 hb hb2 (by rw [← hN]; exact hN12)).1, (pb_0 hb hb2 (by rw [← hN]; exact hN12)).2, (pb_0 hb hb2 (by rw [← hN]; exact hN12)).2]
        rw [← hN]
        have hdN : decide ((12 : Int) < (N : Int)) = false := by simp; omega
        have HN := Lib.hid hN
        have HLT := Lib.hid (length_mkT N (prodF t a))
        have HLU := Lib.hid (length_mkT N (prodF u d))
        clear hN
        go_enter Try.func53, Try.ntmps53
        go_wp2_with fail
        generalize (((w.alloc (.cells #[.slice (some ⟨b, o, none⟩) t.length c, .slice (some ⟨b2, o2, none⟩) u.length c2] 41)).alloc (.cells #[.slice (some ⟨b3, o3, none⟩) a.length c3, .slice (some ⟨b4, o4, none⟩) d.length c4] 41)).alloc (.cells #[.slice none 0 0, .slice none 0 0] 41)) = A at *
        refine (l11Is_any t u _ _ _ (hv.ext hX) (hy.ext hX)).mono ?_
        rintro e w1 ⟨rfl, hx⟩
        rw [hb]
        have zz := Ext.size hx
        replace q0 := hx.free q0 (by simp only []; omega)
        replace q1 := hx.free q1 (by simp only []; omega)
        replace zA := Nat.le_trans zA zz
        replace hX := hX.trans hx
        replace k0 := hx.cell k0
        replace k1 := hx.cell k1
        replace d0 := hx.cell d0
        replace d1 := hx.cell d1
        replace r0 := hx.cell r0
        replace r1 := hx.cell r1
        clear hx zz
        clear hb
        go_wp2_with fail
        refine (l11Is_any a d _ _ _ (hv2.ext hX) (hy2.ext hX)).mono ?_
        rintro e w2 ⟨rfl, hx⟩
        rw [hb2]
        have zz := Ext.size hx
        replace q0 := hx.free q0 (by simp only []; omega)
        replace q1 := hx.free q1 (by simp only []; omega)
        replace zA := Nat.le_trans zA zz
        replace hX := hX.trans hx
        replace k0 := hx.cell k0
        replace k1 := hx.cell k1
        replace d0 := hx.cell d0
        replace d1 := hx.cell d1
        replace r0 := hx.cell r0
        replace r1 := hx.cell r1
        clear hx zz
        clear hb2
        have zd : w2.drew.heap.size = w2.heap.size := rfl
        go_wp2
        go_region_with (first
          | (go_at_call 94; refine Calls.mono (l04Product_any ?_ ?_ _ _ _ N ?_ hN12 ?_ ?_ ?_ ?_) ?_; rotate_left 3; exact (hv.ext ((hX.drew).trans hxB)); exact (hv2.ext ((hX.drew).trans hxB)); exact HT.out.1; exact HT2.out.1; rotate_left; exact HN.out; rintro e wA ⟨vA, rfl, hrA, hxA⟩; obtain ⟨-, bA, oA, cA, rfl, -⟩ := id hrA; replace k0 := hxA.cell k0; replace k1 := hxA.cell k1; replace d0 := hxA.cell d0; replace d1 := hxA.cell d1; replace r0 := hxA.cell r0; replace r1 := hxA.cell r1; replace q0 := hxA.free q0 (by simp only []; have := hxB.size; omega); replace q1 := hxA.free q1 (by simp only []; have := hxB.size; omega))
          | (go_at_call 94; refine Calls.mono (l04Product_any ?_ ?_ _ _ _ N ?_ hN12 ?_ ?_ ?_ ?_) ?_; rotate_left 3; exact (hy.ext ((hX.drew).trans hxA)); exact (hy2.ext ((hX.drew).trans hxA)); exact HU.out.1; exact HU2.out.1; rotate_left; exact HNU.out; rintro e wB ⟨vB, rfl, hrB, hxB⟩; obtain ⟨-, bB, oB, cB, rfl, -⟩ := id hrB; replace k0 := hxB.cell k0; replace k1 := hxB.cell k1; replace d0 := hxB.cell d0; replace d1 := hxB.cell d1; replace r0 := hxB.cell r0; replace r1 := hxB.cell r1; replace q0 := hxB.free q0 (by simp only []; have := hxA.size; omega); replace q1 := hxB.free q1 (by simp only []; have := hxA.size; omega))
          | (go_at_call 94; refine Calls.mono (l04Product_any ?_ ?_ _ _ _ N ?_ hN12 ?_ ?_ ?_ ?_) ?_; rotate_left 3; exact (hv.ext hX.drew); exact (hv2.ext hX.drew); exact HT.out.1; exact HT2.out.1; rotate_left; exact HN.out; rintro e wA ⟨vA, rfl, hrA, hxA⟩; obtain ⟨-, bA, oA, cA, rfl, -⟩ := id hrA; replace k0 := hxA.cell (show w2.drew.cell? _ = some _ from k0); replace k1 := hxA.cell (show w2.drew.cell? _ = some _ from k1); replace d0 := hxA.cell (show w2.drew.cell? _ = some _ from d0); replace d1 := hxA.cell (show w2.drew.cell? _ = some _ from d1); replace r0 := hxA.cell (show w2.drew.cell? _ = some _ from r0); replace r1 := hxA.cell (show w2.drew.cell? _ = some _ from r1); replace q0 := hxA.free (show w2.drew.frozen? _ = false from q0) (by simp only []; omega); replace q1 := hxA.free (show w2.drew.frozen? _ = false from q1) (by simp only []; omega))
          | (go_at_call 94; refine Calls.mono (l04Product_any ?_ ?_ _ _ _ N ?_ hN12 ?_ ?_ ?_ ?_) ?_; rotate_left 3; exact (hy.ext hX.drew); exact (hy2.ext hX.drew); exact HU.out.1; exact HU2.out.1; rotate_left; exact HNU.out; rintro e wB ⟨vB, rfl, hrB, hxB⟩; obtain ⟨-, bB, oB, cB, rfl, -⟩ := id hrB; replace k0 := hxB.cell (show w2.drew.cell? _ = some _ from k0); replace k1 := hxB.cell (show w2.drew.cell? _ = some _ from k1); replace d0 := hxB.cell (show w2.drew.cell? _ = some _ from d0); replace d1 := hxB.cell (show w2.drew.cell? _ = some _ from d1); replace r0 := hxB.cell (show w2.drew.cell? _ = some _ from r0); replace r1 := hxB.cell (show w2.drew.cell? _ = some _ from r1); replace q0 := hxB.free (show w2.drew.frozen? _ = false from q0) (by simp only []; omega); replace q1 := hxB.free (show w2.drew.frozen? _ = false from q1) (by simp only []; omega)))
        all_goals
          go_wp2
          first
            | exact bodyPost_ret (v := .tuple #[.agg #[.slice (some ⟨bA, oA, none⟩) (mkT N (prodF t a)).length cA, .slice (some ⟨bB, oB, none⟩) (mkT N (prodF u d)).length cB], .int .i64 0]) (by simp [results, Try.results53, go_sem, r0, r1]) rfl ⟨_, _, rfl, ⟨(rows_set2 (hrA.ext hxB) r0 r1 _ _).toR, (rows_set2 hrB r0 r1 _ _).toR⟩, ((((hX.drew).trans hxA).trans hxB).setNew (by simp only []; omega) _).setNew (by simp only []; omega) _⟩
            | exact bodyPost_ret (v := .tuple #[.agg #[.slice (some ⟨bA, oA, none⟩) (mkT N (prodF t a)).length cA, .slice (some ⟨bB, oB, none⟩) (mkT N (prodF u d)).length cB], .int .i64 0]) (by simp [results, Try.results53, go_sem, r0, r1]) rfl ⟨_, _, rfl, ⟨(rows_set2 hrA r0 r1 _ _).toR, (rows_set2 (hrB.ext hxA) r0 r1 _ _).toR⟩, ((((hX.drew).trans hxB).trans hxA).setNew (by simp only []; omega) _).setNew (by simp only []; omega) _⟩

set_option maxRecDepth 100000 in
set_option maxHeartbeats 2000000 in
theorem ProductBrace_impl (t u a d : List (List Int)) (v y v2 y2 : Value) (w : World) (hv : Rows w v t) (hy : Rows w y u) (hv2 : Rows w v2 a) (hy2 : Rows w y2 d) :
    Calls Try.prog 54 #[.agg #[v, y], .agg #[v2, y2]] w (NewBC (pbT t u a d (mkT (t.length * a.length) (prodF t a))) (pbT t u a d (mkT (t.length * a.length) (prodF u d))) (pbC t u a d) w) := by
  obtain ⟨hlen, b, o, c, rfl, -⟩ := id hv
  obtain ⟨hlen2, b2, o2, c2, rfl, -⟩ := id hy
  obtain ⟨hlen3, b3, o3, c3, rfl, -⟩ := id hv2
  obtain ⟨hlen4, b4, o4, c4, rfl, -⟩ := id hy2
  have hX : Ext w (((w.alloc (.cells #[.slice (some ⟨b, o, none⟩) t.length c, .slice (some ⟨b2, o2, none⟩) u.length c2] 41)).alloc (.cells #[.slice (some ⟨b3, o3, none⟩) a.length c3, .slice (some ⟨b4, o4, none⟩) d.length c4] 41)).alloc (.cells #[.slice none 0 0, .slice none 0 0] 41)) := (((Ext.refl _).alloc _).alloc _).alloc _
  have k0 : (((w.alloc (.cells #[.slice (some ⟨b, o, none⟩) t.length c, .slice (some ⟨b2, o2, none⟩) u.length c2] 41)).alloc (.cells #[.slice (some ⟨b3, o3, none⟩) a.length c3, .slice (some ⟨b4, o4, none⟩) d.length c4] 41)).alloc (.cells #[.slice none 0 0, .slice none 0 0] 41)).cell? ⟨w.heap.size, 0, none⟩ = some (.slice (some ⟨b, o, none⟩) t.length c) := by simp [go_sem]
  have k1 : (((w.alloc (.cells #[.slice (some ⟨b, o, none⟩) t.length c, .slice (some ⟨b2, o2, none⟩) u.length c2] 41)).alloc (.cells #[.slice (some ⟨b3, o3, none⟩) a.length c3, .slice (some ⟨b4, o4, none⟩) d.length c4] 41)).alloc (.cells #[.slice none 0 0, .slice none 0 0] 41)).cell? ⟨w.heap.size, 1, none⟩ = some (.slice (some ⟨b2, o2, none⟩) u.length c2) := by simp [go_sem]
  have d0 : (((w.alloc (.cells #[.slice (some ⟨b, o, none⟩) t.length c, .slice (some ⟨b2, o2, none⟩) u.length c2] 41)).alloc (.cells #[.slice (some ⟨b3, o3, none⟩) a.length c3, .slice (some ⟨b4, o4, none⟩) d.length c4] 41)).alloc (.cells #[.slice none 0 0, .slice none 0 0] 41)).cell? ⟨w.heap.size + 1, 0, none⟩ = some (.slice (some ⟨b3, o3, none⟩) a.length c3) := by simp [go_sem]
  have d1 : (((w.alloc (.cells #[.slice (some ⟨b, o, none⟩) t.length c, .slice (some ⟨b2, o2, none⟩) u.length c2] 41)).alloc (.cells #[.slice (some ⟨b3, o3, none⟩) a.length c3, .slice (some ⟨b4, o4, none⟩) d.length c4] 41)).alloc (.cells #[.slice none 0 0, .slice none 0 0] 41)).cell? ⟨w.heap.size + 1, 1, none⟩ = some (.slice (some ⟨b4, o4, none⟩) d.length c4) := by simp [go_sem]
  have r0 : (((w.alloc (.cells #[.slice (some ⟨b, o, none⟩) t.length c, .slice (some ⟨b2, o2, none⟩) u.length c2] 41)).alloc (.cells #[.slice (some ⟨b3, o3, none⟩) a.length c3, .slice (some ⟨b4, o4, none⟩) d.length c4] 41)).alloc (.cells #[.slice none 0 0, .slice none 0 0] 41)).cell? ⟨w.heap.size + 2, 0, none⟩ = some (.slice none 0 0) := by simp [go_sem]
  have r1 : (((w.alloc (.cells #[.slice (some ⟨b, o, none⟩) t.length c, .slice (some ⟨b2, o2, none⟩) u.length c2] 41)).alloc (.cells #[.slice (some ⟨b3, o3, none⟩) a.length c3, .slice (some ⟨b4, o4, none⟩) d.length c4] 41)).alloc (.cells #[.slice none 0 0, .slice none 0 0] 41)).cell? ⟨w.heap.size + 2, 1, none⟩ = some (.slice none 0 0) := by simp [go_sem]
  have q0 : (((w.alloc (.cells #[.slice (some ⟨b, o, none⟩) t.length c, .slice (some ⟨b2, o2, none⟩) u.length c2] 41)).alloc (.cells #[.slice (some ⟨b3, o3, none⟩) a.length c3, .slice (some ⟨b4, o4, none⟩) d.length c4] 41)).alloc (.cells #[.slice none 0 0, .slice none 0 0] 41)).frozen? ⟨w.heap.size + 2, 0, none⟩ = false := by simp [go_sem]
  have q1 : (((w.alloc (.cells #[.slice (some ⟨b, o, none⟩) t.length c, .slice (some ⟨b2, o2, none⟩) u.length c2] 41)).alloc (.cells #[.slice (some ⟨b3, o3, none⟩) a.length c3, .slice (some ⟨b4, o4, none⟩) d.length c4] 41)).alloc (.cells #[.slice none 0 0, .slice none 0 0] 41)).frozen? ⟨w.heap.size + 2, 1, none⟩ = false := by simp [go_sem]
  have zA : w.heap.size + 3 ≤ (((w.alloc (.cells #[.slice (some ⟨b, o, none⟩) t.length c, .slice (some ⟨b2, o2, none⟩) u.length c2] 41)).alloc (.cells #[.slice (some ⟨b3, o3, none⟩) a.length c3, .slice (some ⟨b4, o4, none⟩) d.length c4] 41)).alloc (.cells #[.slice none 0 0, .slice none 0 0] 41)).heap.size := by simp
  cases hb : braceB t u with
  | false =>
    rw [(pb_1 (t := t) (u := u) (a := a) (d := d) (fun h => by rw [hb] at h; cases h.1)).1, (pb_1 (t := t) (u := u) (a := a) (d := d) (fun h => by rw [hb] at h; cases h.1)).2, (pb_1 (t := t) (u := u) (a := a) (d := d) (fun h => by rw [hb] at h; cases h.1)).2]
    go_enter Try.func54, Try.ntmps54
    go_wp2_with fail
    generalize (((w.alloc (.cells #[.slice (some ⟨b, o, none⟩) t.length c, .slice (some ⟨b2, o2, none⟩) u.length c2] 41)).alloc (.cells #[.slice (some ⟨b3, o3, none⟩) a.length c3, .slice (some ⟨b4, o4, none⟩) d.length c4] 41)).alloc (.cells #[.slice none 0 0, .slice none 0 0] 41)) = A at *
    refine (IsBrace_impl t u _ _ _ (hv.ext hX) (hy.ext hX)).mono ?_
    rintro e w1 ⟨rfl, hx⟩
    rw [hb]
    have zz := Ext.size hx
    replace q0 := hx.free q0 (by simp only []; omega)
    replace q1 := hx.free q1 (by simp only []; omega)
    replace zA := Nat.le_trans zA zz
    replace hX := hX.trans hx
    replace k0 := hx.cell k0
    replace k1 := hx.cell k1
    replace d0 := hx.cell d0
    replace d1 := hx.cell d1
    replace r0 := hx.cell r0
    replace r1 := hx.cell r1
    clear hx zz
    go_wp2
    refine bodyPost_ret (v := .tuple #[.agg #[.slice none 0 0, .slice none 0 0], .int .i64 1]) (by simp [results, Try.results54, go_sem, r0, r1]) rfl ⟨_, _, rfl, OwnB.nil _ _ _ (by simp; omega), (hX.setNew (by simp only []; omega) _).setNew (by simp only []; omega) _⟩
  | true =>
    cases hb2 : braceB a d with
    | false =>
      rw [(pb_1 (t := t) (u := u) (a := a) (d := d) (fun h => by rw [hb2] at h; cases h.2)).1, (pb_1 (t := t) (u := u) (a := a) (d := d) (fun h => by rw [hb2] at h; cases h.2)).2, (pb_1 (t := t) (u := u) (a := a) (d := d) (fun h => by rw [hb2] at h; cases h.2)).2]
      go_enter Try.func54, Try.ntmps54
      go_wp2_with fail
      generalize (((w.alloc (.cells #[.slice (some ⟨b, o, none⟩) t.length c, .slice (some ⟨b2, o2, none⟩) u.length c2] 41)).alloc (.cells #[.slice (some ⟨b3, o3, none⟩) a.length c3, .slice (some ⟨b4, o4, none⟩) d.length c4] 41)).alloc (.cells #[.slice none 0 0, .slice none 0 0] 41)) = A at *
      refine (IsBrace_impl t u _ _ _ (hv.ext hX) (hy.ext hX)).mono ?_
      rintro e w1 ⟨rfl, hx⟩
      rw [hb]
      have zz := Ext.size hx
      replace q0 := hx.free q0 (by simp only []; omega)
      replace q1 := hx.free q1 (by simp only []; omega)
      replace zA := Nat.le_trans zA zz
      replace hX := hX.trans hx
      replace k0 := hx.cell k0
      replace k1 := hx.cell k1
      replace d0 := hx.cell d0
      replace d1 := hx.cell d1
      replace r0 := hx.cell r0
      replace r1 := hx.cell r1
      clear hx zz
      go_wp2_with fail
      refine (IsBrace_impl a d _ _ _ (hv2.ext hX) (hy2.ext hX)).mono ?_
      rintro e w2 ⟨rfl, hx⟩
      rw [hb2]
      have zz := Ext.size hx
      replace q0 := hx.free q0 (by simp only []; omega)
      replace q1 := hx.free q1 (by simp only []; omega)
      replace zA := Nat.le_trans zA zz
      replace hX := hX.trans hx
      replace k0 := hx.cell k0
      replace k1 := hx.cell k1
      replace d0 := hx.cell d0
      replace d1 := hx.cell d1
      replace r0 := hx.cell r0
      replace r1 := hx.cell r1
      clear hx zz
      go_wp2
      refine bodyPost_ret (v := .tuple #[.agg #[.slice none 0 0, .slice none 0 0], .int .i64 1]) (by simp [results, Try.results54, go_sem, r0, r1]) rfl ⟨_, _, rfl, OwnB.nil _ _ _ (by simp; omega), (hX.setNew (by simp only []; omega) _).setNew (by simp only []; omega) _⟩
    | true =>
      obtain ⟨N, hN⟩ : ∃ N : Nat, N = t.length * a.length := ⟨_, rfl⟩
      have hnm := cast_mul' t.length a.length N hN
      obtain ⟨hG, hU, hL⟩ := braceB_ok hb
      obtain ⟨hG2, hU2, hL2⟩ := braceB_ok hb2
      have HT := Lib.hid hG
      have HU := Lib.hid hU
      have HT2 := Lib.hid hG2
      have HU2 := Lib.hid hU2
      have HNU := Lib.hid (show N = u.length * d.length by rw [hN, hL, hL2])
      have hN144 : N ≤ 144 := by rw [hN]; exact Nat.mul_le_mul hG.1.2.1 hG2.1.2.1
      clear hG hU hG2 hU2 hL hL2
      by_cases hN12 : N ≤ 12
      case neg =>
        rw [(pb_3 hb hb2 (by rw [← hN]; exact hN12)).1, (pb_3 hb hb2 (by rw [← hN]; exact hN12)).2, (pb_3 hb hb2 (by rw [← hN]; exact hN12)).2]
        clear hN
        have hltN : (12 : Int) < (N : Int) := by omega
        have hltn : 12 < N := by omega
        have hdN : decide ((12 : Int) < (N : Int)) = true := by simp; omega
        go_enter Try.func54, Try.ntmps54
        go_wp2_with fail
        generalize (((w.alloc (.cells #[.slice (some ⟨b, o, none⟩) t.length c, .slice (some ⟨b2, o2, none⟩) u.length c2] 41)).alloc (.cells #[.slice (some ⟨b3, o3, none⟩) a.length c3, .slice (some ⟨b4, o4, none⟩) d.length c4] 41)).alloc (.cells #[.slice none 0 0, .slice none 0 0] 41)) = A at *
        refine (IsBrace_impl t u _ _ _ (hv.ext hX) (hy.ext hX)).mono ?_
        rintro e w1 ⟨rfl, hx⟩
        rw [hb]
        have zz := Ext.size hx
        replace q0 := hx.free q0 (by simp only []; omega)
        replace q1 := hx.free q1 (by simp only []; omega)
        replace zA := Nat.le_trans zA zz
        replace hX := hX.trans hx
        replace k0 := hx.cell k0
        replace k1 := hx.cell k1
        replace d0 := hx.cell d0
        replace d1 := hx.cell d1
        replace r0 := hx.cell r0
        replace r1 := hx.cell r1
        clear hx zz
        go_wp2_with fail
        refine (IsBrace_impl a d _ _ _ (hv2.ext hX) (hy2.ext hX)).mono ?_
        rintro e w2 ⟨rfl, hx⟩
        rw [hb2]
        have zz := Ext.size hx
        replace q0 := hx.free q0 (by simp only []; omega)
        replace q1 := hx.free q1 (by simp only []; omega)
        replace zA := Nat.le_trans zA zz
        replace hX := hX.trans hx
        replace k0 := hx.cell k0
        replace k1 := hx.cell k1
        replace d0 := hx.cell d0
        replace d1 := hx.cell d1
        replace r0 := hx.cell r0
        replace r1 := hx.cell r1
        clear hx zz
        go_wp2
        refine bodyPost_ret (v := .tuple #[.agg #[.slice none 0 0, .slice none 0 0], .int .i64 3]) (by simp [results, Try.results54, go_sem, r0, r1]) rfl ⟨_, _, rfl, OwnB.nil _ _ _ (by simp; omega), (hX.setNew (by simp only []; omega) _).setNew (by simp only []; omega) _⟩
      case pos =>
        rw [(pb_0 hb hb2 (by rw [← hN]; exact hN12)).1, (pb_0 hb hb2 (by rw [← hN]; exact hN12)).2, (pb_0 hb hb2 (by rw [← hN]; exact hN12)).2]
        rw [← hN]
        have hdN : decide ((12 : Int) < (N : Int)) = false := by simp; omega
        have HN := Lib.hid hN
        have HLT := Lib.hid (length_mkT N (prodF t a))
        have HLU := Lib.hid (length_mkT N (prodF u d))
        clear hN
        go_enter Try.func54, Try.ntmps54
        go_wp2_with fail
        generalize (((w.alloc (.cells #[.slice (some ⟨b, o, none⟩) t.length c, .slice (some ⟨b2, o2, none⟩) u.length c2] 41)).alloc (.cells #[.slice (some ⟨b3, o3, none⟩) a.length c3, .slice (some ⟨b4, o4, none⟩) d.length c4] 41)).alloc (.cells #[.slice none 0 0, .slice none 0 0] 41)) = A at *
        refine (IsBrace_impl t u _ _ _ (hv.ext hX) (hy.ext hX)).mono ?_
        rintro e w1 ⟨rfl, hx⟩
        rw [hb]
        have zz := Ext.size hx
        replace q0 := hx.free q0 (by simp only []; omega)
        replace q1 := hx.free q1 (by simp only []; omega)
        replace zA := Nat.le_trans zA zz
        replace hX := hX.trans hx
        replace k0 := hx.cell k0
        replace k1 := hx.cell k1
        replace d0 := hx.cell d0
        replace d1 := hx.cell d1
        replace r0 := hx.cell r0
        replace r1 := hx.cell r1
        clear hx zz
        clear hb
        go_wp2_with fail
        refine (IsBrace_impl a d _ _ _ (hv2.ext hX) (hy2.ext hX)).mono ?_
        rintro e w2 ⟨rfl, hx⟩
        rw [hb2]
        have zz := Ext.size hx
        replace q0 := hx.free q0 (by simp only []; omega)
        replace q1 := hx.free q1 (by simp only []; omega)
        replace zA := Nat.le_trans zA zz
        replace hX := hX.trans hx
        replace k0 := hx.cell k0
        replace k1 := hx.cell k1
        replace d0 := hx.cell d0
        replace d1 := hx.cell d1
        replace r0 := hx.cell r0
        replace r1 := hx.cell r1
        clear hx zz
        clear hb2
        have zd : w2.drew.heap.size = w2.heap.size := rfl
        go_wp2
        go_region_with (first
          | (go_at_call 95; refine Calls.mono (productTable_any ?_ ?_ _ _ N _ ?_ hN12 ?_ ?_ ?_ ?_) ?_; rotate_left 3; exact (hv.ext ((hX.drew).trans hxB)); exact (hv2.ext ((hX.drew).trans hxB)); exact HT.out.1; exact HT2.out.1; rotate_left; exact HN.out; rintro e wA ⟨bA, cA, rfl, hoA, hxA⟩; replace k0 := hxA.cell k0; replace k1 := hxA.cell k1; replace d0 := hxA.cell d0; replace d1 := hxA.cell d1; replace r0 := hxA.cell r0; replace r1 := hxA.cell r1; replace q0 := hxA.free q0 (by simp only []; have := hxB.size; omega); replace q1 := hxA.free q1 (by simp only []; have := hxB.size; omega))
          | (go_at_call 95; refine Calls.mono (productTable_any ?_ ?_ _ _ N _ ?_ hN12 ?_ ?_ ?_ ?_) ?_; rotate_left 3; exact (hy.ext ((hX.drew).trans hxA)); exact (hy2.ext ((hX.drew).trans hxA)); exact HU.out.1; exact HU2.out.1; rotate_left; exact HNU.out; rintro e wB ⟨bB, cB, rfl, hoB, hxB⟩; replace k0 := hxB.cell k0; replace k1 := hxB.cell k1; replace d0 := hxB.cell d0; replace d1 := hxB.cell d1; replace r0 := hxB.cell r0; replace r1 := hxB.cell r1; replace q0 := hxB.free q0 (by simp only []; have := hxA.size; omega); replace q1 := hxB.free q1 (by simp only []; have := hxA.size; omega))
          | (go_at_call 95; refine Calls.mono (productTable_any ?_ ?_ _ _ N _ ?_ hN12 ?_ ?_ ?_ ?_) ?_; rotate_left 3; exact (hv.ext hX.drew); exact (hv2.ext hX.drew); exact HT.out.1; exact HT2.out.1; rotate_left; exact HN.out; rintro e wA ⟨bA, cA, rfl, hoA, hxA⟩; replace k0 := hxA.cell (show w2.drew.cell? _ = some _ from k0); replace k1 := hxA.cell (show w2.drew.cell? _ = some _ from k1); replace d0 := hxA.cell (show w2.drew.cell? _ = some _ from d0); replace d1 := hxA.cell (show w2.drew.cell? _ = some _ from d1); replace r0 := hxA.cell (show w2.drew.cell? _ = some _ from r0); replace r1 := hxA.cell (show w2.drew.cell? _ = some _ from r1); replace q0 := hxA.free (show w2.drew.frozen? _ = false from q0) (by simp only []; omega); replace q1 := hxA.free (show w2.drew.frozen? _ = false from q1) (by simp only []; omega))
          | (go_at_call 95; refine Calls.mono (productTable_any ?_ ?_ _ _ N _ ?_ hN12 ?_ ?_ ?_ ?_) ?_; rotate_left 3; exact (hy.ext hX.drew); exact (hy2.ext hX.drew); exact HU.out.1; exact HU2.out.1; rotate_left; exact HNU.out; rintro e wB ⟨bB, cB, rfl, hoB, hxB⟩; replace k0 := hxB.cell (show w2.drew.cell? _ = some _ from k0); replace k1 := hxB.cell (show w2.drew.cell? _ = some _ from k1); replace d0 := hxB.cell (show w2.drew.cell? _ = some _ from d0); replace d1 := hxB.cell (show w2.drew.cell? _ = some _ from d1); replace r0 := hxB.cell (show w2.drew.cell? _ = some _ from r0); replace r1 := hxB.cell (show w2.drew.cell? _ = some _ from r1); replace q0 := hxB.free (show w2.drew.frozen? _ = false from q0) (by simp only []; omega); replace q1 := hxB.free (show w2.drew.frozen? _ = false from q1) (by simp only []; omega)))
        all_goals
          go_wp2
          first
            | exact bodyPost_ret (v := .tuple #[.agg #[.slice (some ⟨bA, 0, none⟩) (mkT N (prodF t a)).length cA, .slice (some ⟨bB, 0, none⟩) (mkT N (prodF u d)).length cB], .int .i64 0]) (by simp [results, Try.results54, go_sem, r0, r1]) rfl ⟨_, _, rfl, ⟨w2.drew.heap.size, wA.heap.size, wA.heap.size, wB.heap.size, by omega, by have := hxB.size; simp; omega, by have := hxA.size; omega, by simp, .inl (Nat.le_refl _), ((OwnV.ext (hoA.v (small_mkT (by omega) _) cA) hxB (Nat.le_refl _)).set2 (by omega) _ _), ((hoB.v (small_mkT (by omega) _) cB).set2 (by have := hxA.size; omega) _ _)⟩, ((((hX.drew).trans hxA).trans hxB).setNew (by simp only []; omega) _).setNew (by simp only []; omega) _⟩
            | exact bodyPost_ret (v := .tuple #[.agg #[.slice (some ⟨bA, 0, none⟩) (mkT N (prodF t a)).length cA, .slice (some ⟨bB, 0, none⟩) (mkT N (prodF u d)).length cB], .int .i64 0]) (by simp [results, Try.results54, go_sem, r0, r1]) rfl ⟨_, _, rfl, ⟨wB.heap.size, wA.heap.size, w2.drew.heap.size, wB.heap.size, by have := hxB.size; omega, by simp, by omega, by have := hxA.size; simp; omega, .inr (Nat.le_refl _), ((hoA.v (small_mkT (by omega) _) cA).set2 (by have := hxB.size; omega) _ _), ((OwnV.ext (hoB.v (small_mkT (by omega) _) cB) hxA (Nat.le_refl _)).set2 (by omega) _ _)⟩, ((((hX.drew).trans hxB).trans hxA).setNew (by simp only []; omega) _).setNew (by simp only []; omega) _⟩

theorem pbT_ne (t u a d : List (List Int)) (f : Nat → Nat → Int) : NoEmpty (pbT t u a d (mkT (t.length * a.length) f)) := by
  unfold pbT
  split
  · rename_i h
    have : braceB t u = true ∧ braceB a d = true := by
      apply Classical.byContradiction
      intro hn; rw [(pb_1 hn).1] at h; omega
    have h1 := (braceB_ok this.1).1.1.1
    have h2 := (braceB_ok this.2).1.1.1
    exact NoEmpty.made (Nat.mul_pos (by omega) (by omega)) _
  · exact NoEmpty.nil
end Go.Proofs.Ytncmfbebdbchbaa
