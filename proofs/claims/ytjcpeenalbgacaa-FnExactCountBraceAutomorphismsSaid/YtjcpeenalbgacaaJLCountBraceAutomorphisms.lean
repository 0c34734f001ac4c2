/-
  The law FnExactCountBraceAutomorphisms, walked.
-/
import Derived.Test.YtjcpeenalbgacaaProg
import Derived.Deep.DeepCutAuto
import Derived.Deep.RegionWith
import Derived.Test.YtjcpeenalbgacaaJx0
import Derived.Test.YtjcpeenalbgacaaJx1
import Derived.Test.YtjcpeenalbgacaaJx3
import Derived.Test.YtjcpeenalbgacaaJx5
import Derived.Test.YtjcpeenalbgacaaJx6
import Derived.Test.YtjcpeenalbgacaaJx7
import Derived.Test.YtjcpeenalbgacaaJx9
import Derived.Test.YtjcpeenalbgacaaJx16
import Derived.Test.YtjcpeenalbgacaaJx11
import Derived.Test.YtjcpeenalbgacaaJx20
import Derived.Test.YtjcpeenalbgacaaJx31
import Derived.Test.YtjcpeenalbgacaaJx36
namespace Go.Proofs.Ytjcpeenalbgacaa
set_option linter.unusedVariables false
set_option linter.unusedSimpArgs false
open Go.RowKit


set_option maxRecDepth 100000 in
set_option maxHeartbeats 2000000 in
theorem lawCountBraceAutomorphisms (w : World) (t0 : List (List Int)) (v0 : Value) (u0 : List (List Int)) (y0 : Value) (hv0 : RowsR w v0 t0) (hl0 : t0.length ≤ maxLen) (hr0 : ∀ i, (row t0 i).length ≤ maxLen) (hy0 : RowsR w y0 u0) (hm0 : u0.length ≤ maxLen) (ho0 : ∀ i, (row u0 i).length ≤ maxLen) : Calls Try.prog 13 #[.agg #[v0, y0]] w fun e w' => e = .returned (.bool true) ∧ Ext w w' := by
  obtain ⟨v0a, v0c, rfl, -⟩ := id hv0
  have HR0 := Lib.hid hr0
  clear hr0
  obtain ⟨y0a, y0c, rfl, -⟩ := id hy0
  have HO0 := Lib.hid ho0
  clear ho0
  have hX : Ext w (w.alloc (.cells #[.slice v0a t0.length v0c, .slice y0a u0.length y0c] 24)) := (Ext.refl _).alloc _
  have zX : w.heap.size + 1 = (w.alloc (.cells #[.slice v0a t0.length v0c, .slice y0a u0.length y0c] 24)).heap.size := by simp
  have b00 : (w.alloc (.cells #[.slice v0a t0.length v0c, .slice y0a u0.length y0c] 24)).cell? ⟨w.heap.size, 0, none⟩ = some (.slice v0a t0.length v0c) := by simp [go_sem]
  have b01 : (w.alloc (.cells #[.slice v0a t0.length v0c, .slice y0a u0.length y0c] 24)).cell? ⟨w.heap.size, 1, none⟩ = some (.slice y0a u0.length y0c) := by simp [go_sem]
  go_enter Try.func13, Try.ntmps13
  go_wp2_with fail
  generalize (w.alloc (.cells #[.slice v0a t0.length v0c, .slice y0a u0.length y0c] 24)) = A0 at *
  refine (szBrace_any t0 u0 _ _ _ _ (hv0.ext hX) (hy0.ext hX) hl0 HR0.out hm0 HO0.out (by omega) (by omega)).mono ?_
  rintro e w1 ⟨q0, rfl, gq0, gp0, gr0, hx⟩
  have GR0 := Lib.hid gr0
  clear gr0
  by_cases hneg0 : q0 < 0
  · go_wp2
    go_ret
    exact ⟨rfl, hX.trans hx⟩
  obtain ⟨hs0, hz0⟩ := GR0.out (by omega)
  clear GR0
  have zz1 := Ext.size hx
  replace hX := Ext.trans hX hx
  replace b00 := Ext.cell hx b00
  replace b01 := Ext.cell hx b01
  clear hx
  go_wp2_with fail
  refine (toBrace_new t0 u0 _ _ _ (hv0.ext hX) (hy0.ext hX) hs0 hz0).mono ?_
  rintro e w2 ⟨sv, sy, rfl, so, sr, ss, hx⟩
  obtain ⟨-, sb, sf, sc, rfl, -⟩ := id sr
  obtain ⟨-, sd, sg, se, rfl, -⟩ := id ss
  have zz2 := Ext.size hx
  replace hX := Ext.trans hX hx
  replace b00 := Ext.cell hx b00
  replace b01 := Ext.cell hx b01
  clear hx so
  go_wp2_with fail
  refine (CountBraceAutomorphisms_spec _ _ _ _ _ sr ss).mono ?_
  rintro e w3 ⟨rfl, hx⟩
  have zz3 := Ext.size hx
  replace hX := Ext.trans hX hx
  replace b00 := Ext.cell hx b00
  replace b01 := Ext.cell hx b01
  clear hx sr ss
  go_wp2_with fail
  refine (toBrace_new t0 u0 _ _ _ (hv0.ext hX) (hy0.ext hX) hs0 hz0).mono ?_
  rintro e w4 ⟨x0v, x0y, rfl, x0o, x0r, x0s, hx⟩
  obtain ⟨-, x0b, x0f, x0c, rfl, -⟩ := id x0r
  obtain ⟨-, x0d, x0g, x0e, rfl, -⟩ := id x0s
  have zz4 := Ext.size hx
  replace hX := Ext.trans hX hx
  replace b00 := Ext.cell hx b00
  replace b01 := Ext.cell hx b01
  clear hx
  have hx : Ext w4 (w4.alloc (.cells #[.slice (some ⟨x0b, x0f, none⟩) t0.length x0c, .slice (some ⟨x0d, x0g, none⟩) u0.length x0e] 29)) := (Ext.refl _).alloc _
  have zB0 : w4.heap.size + 1 = (w4.alloc (.cells #[.slice (some ⟨x0b, x0f, none⟩) t0.length x0c, .slice (some ⟨x0d, x0g, none⟩) u0.length x0e] 29)).heap.size := by simp
  have xb00 : (w4.alloc (.cells #[.slice (some ⟨x0b, x0f, none⟩) t0.length x0c, .slice (some ⟨x0d, x0g, none⟩) u0.length x0e] 29)).cell? ⟨w4.heap.size, 0, none⟩ = some (.slice (some ⟨x0b, x0f, none⟩) t0.length x0c) := by simp [go_sem]
  have xb01 : (w4.alloc (.cells #[.slice (some ⟨x0b, x0f, none⟩) t0.length x0c, .slice (some ⟨x0d, x0g, none⟩) u0.length x0e] 29)).cell? ⟨w4.heap.size, 1, none⟩ = some (.slice (some ⟨x0d, x0g, none⟩) u0.length x0e) := by simp [go_sem]
  replace hX := Ext.trans hX hx
  replace b00 := Ext.cell hx b00
  replace b01 := Ext.cell hx b01
  replace x0o := OwnB.ext x0o hx (Nat.le_refl _)
  replace x0r := x0r.ext hx
  replace x0s := x0s.ext hx
  clear hx
  go_wp2_with fail
  generalize (w4.alloc (.cells #[.slice (some ⟨x0b, x0f, none⟩) t0.length x0c, .slice (some ⟨x0d, x0g, none⟩) u0.length x0e] 29)) = w5 at *
  refine (CountBraceAutomorphisms_impl _ _ _ _ _ x0r x0s).mono ?_
  rintro e w6 ⟨rfl, hx⟩
  have zz6 := Ext.size hx
  replace hX := Ext.trans hX hx
  replace b00 := Ext.cell hx b00
  replace b01 := Ext.cell hx b01
  replace xb00 := Ext.cell hx xb00
  replace xb01 := Ext.cell hx xb01
  replace x0o := OwnB.ext x0o hx (by omega)
  clear hx x0r x0s
  go_wp2_with fail
  have hq0 := eqTB_yes (rfl : t0 = t0)
  have hp0 := eqTB_yes (rfl : u0 = u0)
  have xo := x0o.toR
  go_cut [39] (fun v wx => v = .bool false ∧ Ext w6 wx)
  case first =>
    go_region_with (first
      | (go_at_call 17; refine (toBrace_new t0 u0 _ _ _ (hv0.ext hX.drew) (hy0.ext hX.drew) hs0 hz0).mono ?_; rintro e wd ⟨dv, dy, rfl, do_, dr, ds, hx⟩; obtain ⟨-, db, df, dc, rfl, -⟩ := id dr; obtain ⟨-, dd, dg, de, rfl, -⟩ := id ds; have d0 := hx.cell (show w6.drew.cell? _ = some _ from xb00); have d1 := hx.cell (show w6.drew.cell? _ = some _ from xb01))
      | (go_at_call 20; refine (eqBrace_any t0 u0 t0 u0 _ _ _ _ _ (xo.1.ext (Ext.trans (Ext.drew (Ext.refl _)) hx)) (xo.2.ext (Ext.trans (Ext.drew (Ext.refl _)) hx)) dr.toR ds.toR hs0 hz0).mono ?_; rintro e we ⟨rfl, hxe⟩; rw [hq0, hp0]))
    all_goals
      go_wp2_with fail
      go_meet
      case rel => exact ⟨rfl, (Ext.trans (Ext.drew (Ext.refl _)) hx).trans hxe⟩
  case rest =>
    obtain ⟨rfl, hx⟩ := hcut
    obtain ⟨w7, rfl⟩ : ∃ z : World, z = wc := ⟨_, rfl⟩
    have zz7 := Ext.size hx
    replace hX := Ext.trans hX hx
    replace b00 := Ext.cell hx b00
    replace b01 := Ext.cell hx b01
    replace xb00 := Ext.cell hx xb00
    replace xb01 := Ext.cell hx xb01
    replace x0o := OwnB.ext x0o hx (by omega)
    clear hx xo
    go_wp2
    go_ret
    exact ⟨rfl, hX⟩
end Go.Proofs.Ytjcpeenalbgacaa
