/-
  Contracts of l11Maps.
-/
import Derived.Test.YtjcpeenalbgacaaProg
import Derived.Deep.DeepCutAuto
import Derived.Deep.RegionWith
import Derived.Deep.RegionHeld3
import Derived.Deep.DrawnRows
import Derived.Test.YtjcpeenalbgacaaKx0
import Derived.Test.YtjcpeenalbgacaaKx1
import Derived.Test.YtjcpeenalbgacaaKx3
import Derived.Test.YtjcpeenalbgacaaKx9
import Derived.Test.YtjcpeenalbgacaaKx2
import Derived.Test.YtjcpeenalbgacaaKx4
import Derived.Test.YtjcpeenalbgacaaKx5
import Derived.Test.YtjcpeenalbgacaaKx14
import Derived.Test.YtjcpeenalbgacaaKx7
import Derived.Test.YtjcpeenalbgacaaKx6
import Derived.Test.YtjcpeenalbgacaaKx8
import Derived.Test.YtjcpeenalbgacaaKx10
import Derived.Test.YtjcpeenalbgacaaKx11
import Derived.Test.YtjcpeenalbgacaaKx23
import Derived.Test.YtjcpeenalbgacaaKx24
import Derived.Test.YtjcpeenalbgacaaKx25
import Derived.Test.YtjcpeenalbgacaaKx26
import Derived.Test.YtjcpeenalbgacaaKx27
import Derived.Test.YtjcpeenalbgacaaKx28
import Derived.Test.YtjcpeenalbgacaaKx18
import Derived.Test.YtjcpeenalbgacaaKx19
import Derived.Test.YtjcpeenalbgacaaKx20
namespace Go.Proofs.Ytjcpeenalbgacaa
set_option linter.unusedVariables false
set_option linter.unusedSimpArgs false
open Go.RowKit
attribute [local go_sem ↓] Go.wp_at_zero Go.wp_at_succ

set_option maxRecDepth 100000 in
set_option maxHeartbeats 2000000 in
theorem l11Maps_first (t t' u u' : List (List Int)) (v v2 y y2 : Value) (w : World) (hv : Rows w v t) (hv2 : Rows w v2 t') (hy : Rows w y u) (hy2 : Rows w y2 u') (hG : GroupOk t) (hG2 : GroupOk t') (hGL : t.length = t'.length) (hU : GroupOk u) (hU2 : GroupOk u') (hUL : u.length = u'.length) :
    Calls Try.prog 100 #[.agg #[v, v2], .agg #[y, y2], .bool true] w fun e w' => ∃ v', e = .returned v' ∧ RowsR w' v' (if t.length = u.length then (isoL t.length [t, t'] [u, u']).take 1 else []) ∧ Ext w w' := by
  obtain ⟨hlen, b, o, c, rfl, hc⟩ := id hv
  obtain ⟨hlen2, b2, o2, c2, rfl, hc2⟩ := id hv2
  obtain ⟨hlen3, b3, o3, c3, rfl, hc3⟩ := id hy
  obtain ⟨hlen4, b4, o4, c4, rfl, hc4⟩ := id hy2
  clear hc hc2 hc3 hc4
  replace hGL := Lib.hid hGL
  replace hUL := Lib.hid hUL
  have hX0 : Ext w ((w.alloc (.cells #[.slice (some ⟨b, o, none⟩) t.length c, .slice (some ⟨b2, o2, none⟩) t'.length c2] 29)).alloc (.cells #[.slice (some ⟨b3, o3, none⟩) u.length c3, .slice (some ⟨b4, o4, none⟩) u'.length c4] 29)) := ((Ext.refl w).alloc _).alloc _
  have k0 : ((w.alloc (.cells #[.slice (some ⟨b, o, none⟩) t.length c, .slice (some ⟨b2, o2, none⟩) t'.length c2] 29)).alloc (.cells #[.slice (some ⟨b3, o3, none⟩) u.length c3, .slice (some ⟨b4, o4, none⟩) u'.length c4] 29)).cell? ⟨w.heap.size, 0, none⟩ = some (.slice (some ⟨b, o, none⟩) t.length c) := by simp [go_sem]
  have k1 : ((w.alloc (.cells #[.slice (some ⟨b, o, none⟩) t.length c, .slice (some ⟨b2, o2, none⟩) t'.length c2] 29)).alloc (.cells #[.slice (some ⟨b3, o3, none⟩) u.length c3, .slice (some ⟨b4, o4, none⟩) u'.length c4] 29)).cell? ⟨w.heap.size, 1, none⟩ = some (.slice (some ⟨b2, o2, none⟩) t'.length c2) := by simp [go_sem]
  have k2 : ((w.alloc (.cells #[.slice (some ⟨b, o, none⟩) t.length c, .slice (some ⟨b2, o2, none⟩) t'.length c2] 29)).alloc (.cells #[.slice (some ⟨b3, o3, none⟩) u.length c3, .slice (some ⟨b4, o4, none⟩) u'.length c4] 29)).cell? ⟨w.heap.size + 1, 0, none⟩ = some (.slice (some ⟨b3, o3, none⟩) u.length c3) := by simp [go_sem]
  have k3 : ((w.alloc (.cells #[.slice (some ⟨b, o, none⟩) t.length c, .slice (some ⟨b2, o2, none⟩) t'.length c2] 29)).alloc (.cells #[.slice (some ⟨b3, o3, none⟩) u.length c3, .slice (some ⟨b4, o4, none⟩) u'.length c4] 29)).cell? ⟨w.heap.size + 1, 1, none⟩ = some (.slice (some ⟨b4, o4, none⟩) u'.length c4) := by simp [go_sem]
  have k4 : (((w.alloc (.cells #[.slice (some ⟨b, o, none⟩) t.length c, .slice (some ⟨b2, o2, none⟩) t'.length c2] 29)).alloc (.cells #[.slice (some ⟨b3, o3, none⟩) u.length c3, .slice (some ⟨b4, o4, none⟩) u'.length c4] 29)).alloc (.cells #[.slice (some ⟨b, o, none⟩) t.length c, .slice (some ⟨b2, o2, none⟩) t'.length c2] 22)).cell? ⟨w.heap.size + 1, 0, none⟩ = some (.slice (some ⟨b3, o3, none⟩) u.length c3) := by simp [go_sem]
  have k5 : (((w.alloc (.cells #[.slice (some ⟨b, o, none⟩) t.length c, .slice (some ⟨b2, o2, none⟩) t'.length c2] 29)).alloc (.cells #[.slice (some ⟨b3, o3, none⟩) u.length c3, .slice (some ⟨b4, o4, none⟩) u'.length c4] 29)).alloc (.cells #[.slice (some ⟨b, o, none⟩) t.length c, .slice (some ⟨b2, o2, none⟩) t'.length c2] 22)).cell? ⟨w.heap.size + 1, 1, none⟩ = some (.slice (some ⟨b4, o4, none⟩) u'.length c4) := by simp [go_sem]
  go_enter Try.func100, Try.ntmps100
  by_cases hl : ¬ t.length = u.length
  · rw [if_neg hl]
    have hl' : ¬ (t.length : Int) = (u.length : Int) := by omega
    go_wp2
    go_ret
    exact ⟨_, rfl, RowsR.nil _ _, hX0⟩
  replace hl := Classical.not_not.1 hl
  rw [if_pos hl]
  have HTA := Lib.hid (brace_tabs hG hG2 hGL.out)
  have HTB := Lib.hid (show TabsOk t.length [u, u'] by rw [hl]; exact brace_tabs hU hU2 hUL.out)
  have HN1 := Lib.hid hG.1.1
  have HN12 := Lib.hid hG.1.2.1
  have HG := Lib.hid hG
  have HU := Lib.hid hU
  have HL := Lib.hid hl
  have hl' : (t.length : Int) = (u.length : Int) := by omega
  clear hG hU hl hG2 hGL hU2 hUL
  go_wp2_with fail
  have hX : Ext w (((((w.alloc (.cells #[.slice (some ⟨b, o, none⟩) t.length c, .slice (some ⟨b2, o2, none⟩) t'.length c2] 29)).alloc (.cells #[.slice (some ⟨b3, o3, none⟩) u.length c3, .slice (some ⟨b4, o4, none⟩) u'.length c4] 29)).alloc (.cells #[.slice (some ⟨b, o, none⟩) t.length c, .slice (some ⟨b2, o2, none⟩) t'.length c2] 22)).alloc (.cells #[.slice (some ⟨b3, o3, none⟩) u.length c3, .slice (some ⟨b4, o4, none⟩) u'.length c4] 22)).alloc (.cells #[.int .i64 0] 2)) := ((hX0.alloc _).alloc _).alloc _
  refine (l03Maps_any [t, t'] [u, u'] (.slice (some ⟨w.heap.size + 1 + 1, 0, none⟩) 2 2) (.slice (some ⟨w.heap.size + 1 + 1 + 1, 0, none⟩) 2 2) (.slice (some ⟨w.heap.size + 1 + 1 + 1 + 1, 0, none⟩) 1 1) t.length 1 _ (tabs_lit2 (by simp [go_sem]; done) (by simp [go_sem]; done) (hv.ext hX) (hv2.ext hX)) (tabs_lit2 (by simp [go_sem]; done) (by simp [go_sem]; done) (hy.ext hX) (hy2.ext hX)) (ints_lit0 (by simp [go_sem]; done)) HTA.out HTB.out (by simp) (by simp) HN1.out HN12.out (by simp) (by omega) (by omega)).mono ?_
  rintro e wn ⟨v', rfl, hg, hx⟩
  replace hX := hX.trans hx
  clear hx
  rw [extL_grp HG.out HU.out rfl HL.out.symm] at hg
  have hr := Lib.hid hg.toR
  clear hg
  go_wp2
  go_ret
  exact ⟨_, rfl, hr.out, hX⟩

set_option maxRecDepth 100000 in
set_option maxHeartbeats 2000000 in
theorem l11Maps_all (t t' u u' : List (List Int)) (v v2 y y2 : Value) (w : World) (hv : Rows w v t) (hv2 : Rows w v2 t') (hy : Rows w y u) (hy2 : Rows w y2 u') (hG : GroupOk t) (hG2 : GroupOk t') (hGL : t.length = t'.length) (hU : GroupOk u) (hU2 : GroupOk u') (hUL : u.length = u'.length) (hl : t.length = u.length) :
    Calls Try.prog 100 #[.agg #[v, v2], .agg #[y, y2], .bool false] w fun e w' => ∃ v', e = .returned v' ∧ RowsR w' v' (isoL t.length [t, t'] [u, u']) ∧ Ext w w' := by
  obtain ⟨hlen, b, o, c, rfl, hc⟩ := id hv
  obtain ⟨hlen2, b2, o2, c2, rfl, hc2⟩ := id hv2
  obtain ⟨hlen3, b3, o3, c3, rfl, hc3⟩ := id hy
  obtain ⟨hlen4, b4, o4, c4, rfl, hc4⟩ := id hy2
  clear hc hc2 hc3 hc4
  replace hGL := Lib.hid hGL
  replace hUL := Lib.hid hUL
  have hX0 : Ext w ((w.alloc (.cells #[.slice (some ⟨b, o, none⟩) t.length c, .slice (some ⟨b2, o2, none⟩) t'.length c2] 29)).alloc (.cells #[.slice (some ⟨b3, o3, none⟩) u.length c3, .slice (some ⟨b4, o4, none⟩) u'.length c4] 29)) := ((Ext.refl w).alloc _).alloc _
  have k0 : ((w.alloc (.cells #[.slice (some ⟨b, o, none⟩) t.length c, .slice (some ⟨b2, o2, none⟩) t'.length c2] 29)).alloc (.cells #[.slice (some ⟨b3, o3, none⟩) u.length c3, .slice (some ⟨b4, o4, none⟩) u'.length c4] 29)).cell? ⟨w.heap.size, 0, none⟩ = some (.slice (some ⟨b, o, none⟩) t.length c) := by simp [go_sem]
  have k1 : ((w.alloc (.cells #[.slice (some ⟨b, o, none⟩) t.length c, .slice (some ⟨b2, o2, none⟩) t'.length c2] 29)).alloc (.cells #[.slice (some ⟨b3, o3, none⟩) u.length c3, .slice (some ⟨b4, o4, none⟩) u'.length c4] 29)).cell? ⟨w.heap.size, 1, none⟩ = some (.slice (some ⟨b2, o2, none⟩) t'.length c2) := by simp [go_sem]
  have k2 : ((w.alloc (.cells #[.slice (some ⟨b, o, none⟩) t.length c, .slice (some ⟨b2, o2, none⟩) t'.length c2] 29)).alloc (.cells #[.slice (some ⟨b3, o3, none⟩) u.length c3, .slice (some ⟨b4, o4, none⟩) u'.length c4] 29)).cell? ⟨w.heap.size + 1, 0, none⟩ = some (.slice (some ⟨b3, o3, none⟩) u.length c3) := by simp [go_sem]
  have k3 : ((w.alloc (.cells #[.slice (some ⟨b, o, none⟩) t.length c, .slice (some ⟨b2, o2, none⟩) t'.length c2] 29)).alloc (.cells #[.slice (some ⟨b3, o3, none⟩) u.length c3, .slice (some ⟨b4, o4, none⟩) u'.length c4] 29)).cell? ⟨w.heap.size + 1, 1, none⟩ = some (.slice (some ⟨b4, o4, none⟩) u'.length c4) := by simp [go_sem]
  have k4 : (((w.alloc (.cells #[.slice (some ⟨b, o, none⟩) t.length c, .slice (some ⟨b2, o2, none⟩) t'.length c2] 29)).alloc (.cells #[.slice (some ⟨b3, o3, none⟩) u.length c3, .slice (some ⟨b4, o4, none⟩) u'.length c4] 29)).alloc (.cells #[.slice (some ⟨b, o, none⟩) t.length c, .slice (some ⟨b2, o2, none⟩) t'.length c2] 22)).cell? ⟨w.heap.size + 1, 0, none⟩ = some (.slice (some ⟨b3, o3, none⟩) u.length c3) := by simp [go_sem]
  have k5 : (((w.alloc (.cells #[.slice (some ⟨b, o, none⟩) t.length c, .slice (some ⟨b2, o2, none⟩) t'.length c2] 29)).alloc (.cells #[.slice (some ⟨b3, o3, none⟩) u.length c3, .slice (some ⟨b4, o4, none⟩) u'.length c4] 29)).alloc (.cells #[.slice (some ⟨b, o, none⟩) t.length c, .slice (some ⟨b2, o2, none⟩) t'.length c2] 22)).cell? ⟨w.heap.size + 1, 1, none⟩ = some (.slice (some ⟨b4, o4, none⟩) u'.length c4) := by simp [go_sem]
  go_enter Try.func100, Try.ntmps100
  have HTA := Lib.hid (brace_tabs hG hG2 hGL.out)
  have HTB := Lib.hid (show TabsOk t.length [u, u'] by rw [hl]; exact brace_tabs hU hU2 hUL.out)
  have HN1 := Lib.hid hG.1.1
  have HN12 := Lib.hid hG.1.2.1
  have HG := Lib.hid hG
  have HU := Lib.hid hU
  have HL := Lib.hid hl
  have hl' : (t.length : Int) = (u.length : Int) := by omega
  clear hG hU hl hG2 hGL hU2 hUL
  go_wp2_with fail
  have hX : Ext w (((((w.alloc (.cells #[.slice (some ⟨b, o, none⟩) t.length c, .slice (some ⟨b2, o2, none⟩) t'.length c2] 29)).alloc (.cells #[.slice (some ⟨b3, o3, none⟩) u.length c3, .slice (some ⟨b4, o4, none⟩) u'.length c4] 29)).alloc (.cells #[.slice (some ⟨b, o, none⟩) t.length c, .slice (some ⟨b2, o2, none⟩) t'.length c2] 22)).alloc (.cells #[.slice (some ⟨b3, o3, none⟩) u.length c3, .slice (some ⟨b4, o4, none⟩) u'.length c4] 22)).alloc (.cells #[.int .i64 0] 2)) := ((hX0.alloc _).alloc _).alloc _
  refine (l03Maps_any [t, t'] [u, u'] (.slice (some ⟨w.heap.size + 1 + 1, 0, none⟩) 2 2) (.slice (some ⟨w.heap.size + 1 + 1 + 1, 0, none⟩) 2 2) (.slice (some ⟨w.heap.size + 1 + 1 + 1 + 1, 0, none⟩) 1 1) t.length 1000000 _ (tabs_lit2 (by simp [go_sem]; done) (by simp [go_sem]; done) (hv.ext hX) (hv2.ext hX)) (tabs_lit2 (by simp [go_sem]; done) (by simp [go_sem]; done) (hy.ext hX) (hy2.ext hX)) (ints_lit0 (by simp [go_sem]; done)) HTA.out HTB.out (by simp) (by simp) HN1.out HN12.out (by simp) (by omega) (by omega)).mono ?_
  rintro e wn ⟨v', rfl, hg, hx⟩
  replace hX := hX.trans hx
  clear hx
  rw [take_grp HG.out HU.out rfl HL.out.symm HN12.out] at hg
  have hr := Lib.hid hg.toR
  clear hg
  go_wp2
  go_ret
  exact ⟨_, rfl, hr.out, hX⟩

end Go.Proofs.Ytjcpeenalbgacaa

/-
  Contracts of the reference's isomorphisms.
-/
namespace Go.Proofs.Ytjcpeenalbgacaa
set_option linter.unusedVariables false
set_option linter.unusedSimpArgs false
open Go.RowKit
attribute [local go_sem ↓] Go.wp_at_zero Go.wp_at_succ

set_option maxRecDepth 100000 in
set_option maxHeartbeats 1000000 in
theorem GroupAutomorphisms_spec (t : List (List Int)) (v : Value) (w : World) (hv : Rows w v t) :
    Calls Try.prog 49 #[.agg #[v]] w (RetTC (ifG t (isoL t.length [t] [t]) []) (codeG t) w) := by
  obtain ⟨hlen, b, o, c, rfl, hc⟩ := id hv
  have hX := ext_box w (.slice (some ⟨b, o, none⟩) t.length c) 53
  have k0 := cell_new w (.slice (some ⟨b, o, none⟩) t.length c) 53
  cases hg : groupB t with
  | false =>
    rw [ifG_no hg, codeG_no hg]
    go_enter Try.func49, Try.ntmps49
    go_wp2_with fail
    refine (l10Is_any t _ _ (hv.ext hX)).mono ?_
    rintro e wn ⟨rfl, hx⟩
    rw [hg]
    replace hX := hX.trans hx
    replace k0 := hx.cell k0
    clear hx
    go_wp2
    go_ret2
    exact ⟨_, rfl, RowsR.nil _ _, hX⟩
  | true =>
    rw [ifG_yes hg, codeG_yes hg]
    have HG := Lib.hid (groupB_iff.1 hg)
    have h12 := HG.out.1.2.1
    go_enter Try.func49, Try.ntmps49
    go_wp2_with fail
    refine (l10Is_any t _ _ (hv.ext hX)).mono ?_
    rintro e wn ⟨rfl, hx⟩
    rw [hg]
    replace hX := hX.trans hx
    replace k0 := hx.cell k0
    clear hx
    clear hg
    go_wp2_with fail
    refine (l10Automorphisms_any t _ _ (hv.ext hX) HG.out).mono ?_
    rintro e wm ⟨v', rfl, hr, hx⟩
    replace hX := hX.trans hx
    clear hx
    have HR := Lib.hid hr
    clear hr
    go_wp2
    go_ret2
    exact ⟨_, rfl, HR.out, hX⟩

set_option maxRecDepth 100000 in
theorem CountBraceAutomorphisms_spec (t u : List (List Int)) (v y : Value) (w : World) (hv : Rows w v t) (hy : Rows w y u) :
    Calls Try.prog 54 #[.agg #[v, y]] w (RetII (ifB t u (((isoL t.length [t, u] [t, u]).length : Nat) : Int) 0) (codeB t u) w) := by
  obtain ⟨hlen, b, o, c, rfl, hc⟩ := id hv
  obtain ⟨hlen2, b2, o2, c2, rfl, hc2⟩ := id hy
  have hX := ext_boxB w (.slice (some ⟨b, o, none⟩) t.length c) (.slice (some ⟨b2, o2, none⟩) u.length c2) 29
  have k0 := cell_new2a w (.slice (some ⟨b, o, none⟩) t.length c) (.slice (some ⟨b2, o2, none⟩) u.length c2) 29
  have k1 := cell_new2b w (.slice (some ⟨b, o, none⟩) t.length c) (.slice (some ⟨b2, o2, none⟩) u.length c2) 29
  cases hb : braceB t u with
  | false =>
    rw [ifB_no hb, codeB_no hb]
    clear hc hc2
    go_enter Try.func54, Try.ntmps54
    go_wp2_with fail
    refine (l11Is_any t u _ _ _ (hv.ext hX) (hy.ext hX)).mono ?_
    rintro e wn ⟨rfl, hx⟩
    replace hX := hX.trans hx
    replace k0 := hx.cell k0
    replace k1 := hx.cell k1
    clear hx
    rw [hb]
    go_wp2
    go_ret2
    exact ⟨rfl, hX⟩
  | true =>
    rw [ifB_yes hb, codeB_yes hb]
    obtain ⟨hG, hU, hL⟩ := braceB_ok hb
    have HL := Lib.hid hL
    have HG := Lib.hid hG
    have HU := Lib.hid hU
    have h12 := hG.1.2.1
    have HBR := Lib.hid hb
    clear hL hG hU
    go_enter Try.func54, Try.ntmps54
    go_wp2_with fail
    refine (l11Is_any t u _ _ _ (hv.ext hX) (hy.ext hX)).mono ?_
    rintro e wn ⟨rfl, hx⟩
    replace hX := hX.trans hx
    replace k0 := hx.cell k0
    replace k1 := hx.cell k1
    clear hx
    rw [hb]
    clear hb
    go_wp2_with fail
    refine (l11Maps_all t u t u _ _ _ _ _ (hv.ext hX) (hy.ext hX) (hv.ext hX) (hy.ext hX) HG.out HU.out HL.out HG.out HU.out HL.out rfl).mono ?_
    rintro e wm ⟨v', rfl, ⟨a9, c9, rfl, hr⟩, hx⟩
    replace hX := hX.trans hx
    clear hx hr
    go_wp2
    go_ret2
    exact ⟨rfl, hX⟩

end Go.Proofs.Ytjcpeenalbgacaa
