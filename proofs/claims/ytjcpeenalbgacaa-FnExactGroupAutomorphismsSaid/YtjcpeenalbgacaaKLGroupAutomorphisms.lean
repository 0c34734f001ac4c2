/-
  The law FnExactGroupAutomorphisms, walked.
-/
import Derived.Test.YtjcpeenalbgacaaProg
import Derived.Deep.DeepCutAuto
import Derived.Deep.RegionWith
import Derived.Test.YtjcpeenalbgacaaKx0
import Derived.Test.YtjcpeenalbgacaaKx1
import Derived.Test.YtjcpeenalbgacaaKx3
import Derived.Test.YtjcpeenalbgacaaKx5
import Derived.Test.YtjcpeenalbgacaaKx6
import Derived.Test.YtjcpeenalbgacaaKx7
import Derived.Test.YtjcpeenalbgacaaKx9
import Derived.Test.YtjcpeenalbgacaaKx14
import Derived.Test.YtjcpeenalbgacaaKx19
import Derived.Test.YtjcpeenalbgacaaKx29
import Derived.Test.YtjcpeenalbgacaaKx35
namespace Go.Proofs.Ytjcpeenalbgacaa
set_option linter.unusedVariables false
set_option linter.unusedSimpArgs false
open Go.RowKit


set_option maxRecDepth 100000 in
set_option maxHeartbeats 2000000 in
theorem lawGroupAutomorphisms (w : World) (t0 : List (List Int)) (v0 : Value) (hv0 : RowsR w v0 t0) (hl0 : t0.length ≤ maxLen) (hr0 : ∀ i, (row t0 i).length ≤ maxLen) : Calls Try.prog 12 #[.agg #[v0]] w fun e w' => e = .returned (.bool true) ∧ Ext w w' := by
  obtain ⟨v0a, v0c, rfl, -⟩ := id hv0
  have HR0 := Lib.hid hr0
  clear hr0
  have hX : Ext w (w.alloc (.cells #[.slice v0a t0.length v0c] 51)) := (Ext.refl _).alloc _
  have zX : w.heap.size + 1 = (w.alloc (.cells #[.slice v0a t0.length v0c] 51)).heap.size := by simp
  have b00 : (w.alloc (.cells #[.slice v0a t0.length v0c] 51)).cell? ⟨w.heap.size, 0, none⟩ = some (.slice v0a t0.length v0c) := by simp [go_sem]
  go_enter Try.func12, Try.ntmps12
  go_wp2_with fail
  generalize (w.alloc (.cells #[.slice v0a t0.length v0c] 51)) = A0 at *
  refine (szGroup_any t0 _ _ _ (hv0.ext hX) hl0 HR0.out (by omega) (by omega)).mono ?_
  rintro e w1 ⟨q0, rfl, gq0, gp0, gr0, hx⟩
  have GR0 := Lib.hid gr0
  clear gr0
  by_cases hneg0 : q0 < 0
  · go_wp2
    go_ret
    exact ⟨rfl, hX.trans hx⟩
  have hs0 := GR0.out (by omega)
  clear GR0
  have zz1 := Ext.size hx
  replace hX := Ext.trans hX hx
  replace b00 := Ext.cell hx b00
  clear hx
  go_wp2_with fail
  refine (toGroup_new t0 _ _ (hv0.ext hX) hs0).mono ?_
  rintro e w2 ⟨sv, rfl, so, sr, hx⟩
  obtain ⟨-, sb, sf, sc, rfl, -⟩ := id sr
  have zz2 := Ext.size hx
  replace hX := Ext.trans hX hx
  replace b00 := Ext.cell hx b00
  clear hx so
  go_wp2_with fail
  refine (GroupAutomorphisms_spec _ _ _ sr).mono ?_
  rintro e w3 ⟨rv, rfl, ro, hx⟩
  obtain ⟨ra, rc, rfl, -⟩ := id ro
  have zz3 := Ext.size hx
  replace hX := Ext.trans hX hx
  replace b00 := Ext.cell hx b00
  clear hx sr
  go_wp2_with fail
  have hA := Ext.refl w3
  refine (toGroup_new t0 _ _ (hv0.ext hX) hs0).mono ?_
  rintro e w4 ⟨x0v, rfl, x0o, x0r, hx⟩
  obtain ⟨-, x0b, x0f, x0c, rfl, -⟩ := id x0r
  have zz4 := Ext.size hx
  replace hX := Ext.trans hX hx
  replace hA := Ext.trans hA hx
  replace b00 := Ext.cell hx b00
  clear hx
  have hx : Ext w4 (w4.alloc (.cells #[.slice (some ⟨x0b, x0f, none⟩) t0.length x0c] 53)) := (Ext.refl _).alloc _
  have zB0 : w4.heap.size + 1 = (w4.alloc (.cells #[.slice (some ⟨x0b, x0f, none⟩) t0.length x0c] 53)).heap.size := by simp
  have xb00 : (w4.alloc (.cells #[.slice (some ⟨x0b, x0f, none⟩) t0.length x0c] 53)).cell? ⟨w4.heap.size, 0, none⟩ = some (.slice (some ⟨x0b, x0f, none⟩) t0.length x0c) := by simp [go_sem]
  replace hX := Ext.trans hX hx
  replace hA := Ext.trans hA hx
  replace b00 := Ext.cell hx b00
  replace x0o := OwnV.ext x0o hx (Nat.le_refl _)
  replace x0r := x0r.ext hx
  clear hx
  go_wp2_with fail
  generalize (w4.alloc (.cells #[.slice (some ⟨x0b, x0f, none⟩) t0.length x0c] 53)) = w5 at *
  refine (GroupAutomorphisms_impl _ _ _ x0r).mono ?_
  rintro e w6 ⟨gv, rfl, go, hx⟩
  obtain ⟨-, ga, gc, rfl, -⟩ := id go
  have zz6 := Ext.size hx
  replace hX := Ext.trans hX hx
  replace hA := Ext.trans hA hx
  replace b00 := Ext.cell hx b00
  replace xb00 := Ext.cell hx xb00
  replace x0o := OwnV.ext x0o hx (by omega)
  clear hx x0r
  have ht0 := total_nonneg (ifG t0 (isoL t0.length [t0] [t0]) [])
  have gs := OwnV.small go
  have hk0 := total_le (ifG t0 (isoL t0.length [t0] [t0]) []) gs
  go_wp2_with fail
  have he0 := eqTB_yes (rfl : (ifG t0 (isoL t0.length [t0] [t0]) []) = (ifG t0 (isoL t0.length [t0] [t0]) []))
  refine (eqInt64SS_any (ifG t0 (isoL t0.length [t0] [t0]) []) (ifG t0 (isoL t0.length [t0] [t0]) []) _ _ _ go.toR (ro.ext hA) gs).mono ?_
  rintro e w7 ⟨rfl, hd⟩
  have hx := Drawn.ext hd
  clear hd
  rw [he0]
  have zz7 := Ext.size hx
  replace hX := Ext.trans hX hx
  replace hA := Ext.trans hA hx
  replace b00 := Ext.cell hx b00
  replace xb00 := Ext.cell hx xb00
  replace x0o := OwnV.ext x0o hx (by omega)
  replace go := OwnV.ext go hx (by omega)
  clear hx
  go_wp2_with fail
  have hq0 := eqTB_yes (rfl : t0 = t0)
  have xo := x0o.toR
  go_cut [45] (fun v wx => v = .bool false ∧ Ext w7 wx)
  case first =>
    go_region_with (first
      | (go_at_call 42; refine (toGroup_new t0 _ _ (hv0.ext hX.drew) hs0).mono ?_; rintro e wd ⟨dv, rfl, do_, dr, hx⟩; obtain ⟨-, db, df, dc, rfl, -⟩ := id dr; have d0 := hx.cell (show w7.drew.cell? _ = some _ from xb00))
      | (go_at_call 44; refine (eqGroup_any t0 t0 _ _ _ (xo.ext (Ext.trans (Ext.drew (Ext.refl _)) hx)) dr.toR hs0).mono ?_; rintro e we ⟨rfl, hxe⟩; rw [hq0]))
    all_goals
      go_wp2_with fail
      go_meet
      case rel => exact ⟨rfl, (Ext.trans (Ext.drew (Ext.refl _)) hx).trans hxe⟩
  case rest =>
    obtain ⟨rfl, hx⟩ := hcut
    obtain ⟨w8, rfl⟩ : ∃ z : World, z = wc := ⟨_, rfl⟩
    have zz8 := Ext.size hx
    replace hX := Ext.trans hX hx
    replace hA := Ext.trans hA hx
    replace b00 := Ext.cell hx b00
    replace xb00 := Ext.cell hx xb00
    replace x0o := OwnV.ext x0o hx (by omega)
    replace go := OwnV.ext go hx (by omega)
    clear hx xo
    go_wp2_with fail
    have hn0 := total_nonneg t0
    have hb0 := total_le t0 hs0
    refine (markGroup_any w3.heap.size w4.heap.size t0 _ _ _ x0o (by omega) (by omega) (by omega)).mono ?_
    rintro e w9 ⟨rfl, -, hT⟩
    clear x0o
    have zz9 := Touch.size hT
    replace hX := Ext.touch hX hT (by omega)
    replace hA := Ext.touch hA hT (by omega)
    replace b00 := Touch.cell hT b00 (by simp only []; omega)
    replace xb00 := Touch.cell hT xb00 (by simp only []; omega)
    replace go := OwnV.touch go hT (by omega) (by omega)
    clear hT
    go_wp2_with fail
    refine (eqInt64SS_any (ifG t0 (isoL t0.length [t0] [t0]) []) (ifG t0 (isoL t0.length [t0] [t0]) []) _ _ _ go.toR (ro.ext hA) gs).mono ?_
    rintro e w10 ⟨rfl, hd⟩
    have hx := Drawn.ext hd
    clear hd
    rw [he0]
    have zz10 := Ext.size hx
    replace hX := Ext.trans hX hx
    replace hA := Ext.trans hA hx
    replace b00 := Ext.cell hx b00
    replace xb00 := Ext.cell hx xb00
    replace go := OwnV.ext go hx (by omega)
    clear hx
    go_wp2_with fail
    refine (markInt64SS_new w5.heap.size w6.heap.size (ifG t0 (isoL t0.length [t0] [t0]) []) _ _ _ go (by omega) (by omega) (by omega)).mono ?_
    rintro e w11 ⟨rfl, gn, hT⟩
    replace go := gn
    clear gn
    have zz11 := Touch.size hT
    replace hX := Ext.touch hX hT (by omega)
    replace hA := Ext.touch hA hT (by omega)
    replace b00 := Touch.cell hT b00 (by simp only []; omega)
    replace xb00 := Touch.cell hT xb00 (by simp only []; omega)
    clear hT
    go_wp2_with fail
    refine (heldInt64SS_new (ifG t0 (isoL t0.length [t0] [t0]) []) _ _ _ go.toR gs (by omega) (by omega)).mono ?_
    rintro e w12 ⟨rfl, hx⟩
    have zz12 := Ext.size hx
    replace hX := Ext.trans hX hx
    replace hA := Ext.trans hA hx
    replace b00 := Ext.cell hx b00
    replace xb00 := Ext.cell hx xb00
    replace go := OwnV.ext go hx (by omega)
    clear hx
    go_wp2_with fail
    refine (toGroup_new t0 _ _ (hv0.ext hX) hs0).mono ?_
    rintro e w13 ⟨hv, rfl, ho, hr, hx⟩
    obtain ⟨-, hb, hf, hc, rfl, -⟩ := id hr
    have zz13 := Ext.size hx
    replace hX := Ext.trans hX hx
    replace hA := Ext.trans hA hx
    replace b00 := Ext.cell hx b00
    replace xb00 := Ext.cell hx xb00
    replace go := OwnV.ext go hx (by omega)
    clear hx ho
    go_wp2_with fail
    refine (GroupAutomorphisms_impl _ _ _ hr).mono ?_
    rintro e w14 ⟨kv, rfl, ko, hx⟩
    obtain ⟨-, ka, kc, rfl, -⟩ := id ko
    have zz14 := Ext.size hx
    replace hX := Ext.trans hX hx
    replace hA := Ext.trans hA hx
    replace b00 := Ext.cell hx b00
    replace xb00 := Ext.cell hx xb00
    replace go := OwnV.ext go hx (by omega)
    clear hx hr
    go_wp2_with fail
    refine (eqInt64SS_any (ifG t0 (isoL t0.length [t0] [t0]) []) (ifG t0 (isoL t0.length [t0] [t0]) []) _ _ _ ko.toR (ro.ext hA) gs).mono ?_
    rintro e w15 ⟨rfl, hd⟩
    have hx := Drawn.ext hd
    clear hd
    rw [he0]
    have zz15 := Ext.size hx
    replace hX := Ext.trans hX hx
    replace hA := Ext.trans hA hx
    replace b00 := Ext.cell hx b00
    replace xb00 := Ext.cell hx xb00
    replace go := OwnV.ext go hx (by omega)
    clear hx
    go_wp2_with fail
    refine (heldInt64SS_new (ifG t0 (isoL t0.length [t0] [t0]) []) _ _ _ go.toR gs (by omega) (by omega)).mono ?_
    rintro e w16 ⟨rfl, hx⟩
    have zz16 := Ext.size hx
    replace hX := Ext.trans hX hx
    replace hA := Ext.trans hA hx
    replace b00 := Ext.cell hx b00
    replace xb00 := Ext.cell hx xb00
    replace go := OwnV.ext go hx (by omega)
    clear hx
    go_wp2
    go_ret
    exact ⟨rfl, hX⟩
end Go.Proofs.Ytjcpeenalbgacaa
