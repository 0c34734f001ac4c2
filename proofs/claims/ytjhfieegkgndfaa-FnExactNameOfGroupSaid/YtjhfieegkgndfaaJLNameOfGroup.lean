/-
  The law FnExactNameOfGroup, walked.
-/
import Derived.Test.YtjhfieegkgndfaaProg
import Derived.Deep.DeepCutAuto
import Derived.Deep.RegionWith
import Derived.Test.YtjhfieegkgndfaaJx0
import Derived.Test.YtjhfieegkgndfaaJx1
import Derived.Test.YtjhfieegkgndfaaJx3
import Derived.Test.YtjhfieegkgndfaaJx5
import Derived.Test.YtjhfieegkgndfaaJx9
import Derived.Test.YtjhfieegkgndfaaJx6
import Derived.Test.YtjhfieegkgndfaaJx11
import Derived.Test.YtjhfieegkgndfaaJx24
import Derived.Test.YtjhfieegkgndfaaJx8
import Derived.Test.YtjhfieegkgndfaaJx15
import Derived.Test.YtjhfieegkgndfaaJx23
import Derived.Test.YtjhfieegkgndfaaJx32
import Derived.Test.YtjhfieegkgndfaaJx40
import Derived.Test.YtjhfieegkgndfaaJx50
import Derived.Test.YtjhfieegkgndfaaJx51
namespace Go.Proofs.Ytjhfieegkgndfaa
set_option linter.unusedVariables false
set_option linter.unusedSimpArgs false
open Go.RowKit


set_option maxRecDepth 100000 in
set_option maxHeartbeats 2000000 in
theorem lawNameOfGroup (w : World) (t0 : List (List Int)) (v0 : Value) (hv0 : RowsR w v0 t0) (hl0 : t0.length ≤ maxLen) (hr0 : ∀ i, (row t0 i).length ≤ maxLen) : Calls Try.prog 7 #[.agg #[v0]] w fun e w' => e = .returned (.bool true) ∧ Ext w w' := by
  obtain ⟨v0a, v0c, rfl, -⟩ := id hv0
  have HR0 := Lib.hid hr0
  clear hr0
  have hX : Ext w (w.alloc (.cells #[.slice v0a t0.length v0c] 51)) := (Ext.refl _).alloc _
  have zX : w.heap.size + 1 = (w.alloc (.cells #[.slice v0a t0.length v0c] 51)).heap.size := by simp
  have b00 : (w.alloc (.cells #[.slice v0a t0.length v0c] 51)).cell? ⟨w.heap.size, 0, none⟩ = some (.slice v0a t0.length v0c) := by simp [go_sem]
  go_enter Try.func7, Try.ntmps7
  go_wp2_with fail
  generalize (w.alloc (.cells #[.slice v0a t0.length v0c] 51)) = A0 at *
  refine (szGroup_any t0 _ _ _ (hv0.ext hX) hl0 HR0.out (by omega) (by omega)).mono ?_
  rintro e w1 ⟨q0, rfl, gq0, gp0, gr0, hx⟩
  have GR0 := Lib.hid gr0
  clear gr0
  by_cases hneg0 : q0 < 0
  · go_wp2
    go_ret
    exact ⟨rfl, hX.trans hx⟩
  have hs0 := GR0.out (by omega)
  clear GR0
  have zz1 := Ext.size hx
  replace hX := Ext.trans hX hx
  replace b00 := Ext.cell hx b00
  clear hx
  go_wp2_with fail
  refine (toGroup_new t0 _ _ (hv0.ext hX) hs0).mono ?_
  rintro e w2 ⟨sv, rfl, so, sr, hx⟩
  obtain ⟨-, sb, sf, sc, rfl, -⟩ := id sr
  have zz2 := Ext.size hx
  replace hX := Ext.trans hX hx
  replace b00 := Ext.cell hx b00
  clear hx so
  go_wp2_with fail
  refine (NameOfGroup_spec _ _ _ sr).mono ?_
  rintro e w3 ⟨rfl, hx⟩
  have zz3 := Ext.size hx
  replace hX := Ext.trans hX hx
  replace b00 := Ext.cell hx b00
  clear hx sr
  go_wp2_with fail
  refine (toGroup_new t0 _ _ (hv0.ext hX) hs0).mono ?_
  rintro e w4 ⟨x0v, rfl, x0o, x0r, hx⟩
  obtain ⟨-, x0b, x0f, x0c, rfl, -⟩ := id x0r
  have zz4 := Ext.size hx
  replace hX := Ext.trans hX hx
  replace b00 := Ext.cell hx b00
  clear hx
  have hx : Ext w4 (w4.alloc (.cells #[.slice (some ⟨x0b, x0f, none⟩) t0.length x0c] 37)) := (Ext.refl _).alloc _
  have zB0 : w4.heap.size + 1 = (w4.alloc (.cells #[.slice (some ⟨x0b, x0f, none⟩) t0.length x0c] 37)).heap.size := by simp
  have xb00 : (w4.alloc (.cells #[.slice (some ⟨x0b, x0f, none⟩) t0.length x0c] 37)).cell? ⟨w4.heap.size, 0, none⟩ = some (.slice (some ⟨x0b, x0f, none⟩) t0.length x0c) := by simp [go_sem]
  replace hX := Ext.trans hX hx
  replace b00 := Ext.cell hx b00
  replace x0o := OwnV.ext x0o hx (Nat.le_refl _)
  replace x0r := x0r.ext hx
  clear hx
  go_wp2_with fail
  generalize (w4.alloc (.cells #[.slice (some ⟨x0b, x0f, none⟩) t0.length x0c] 37)) = w5 at *
  refine (NameOfGroup_impl _ _ _ x0r).mono ?_
  rintro e w6 ⟨rfl, hx⟩
  have zz6 := Ext.size hx
  replace hX := Ext.trans hX hx
  replace b00 := Ext.cell hx b00
  replace xb00 := Ext.cell hx xb00
  replace x0o := OwnV.ext x0o hx (by omega)
  clear hx x0r
  go_wp2_with fail
  have hq0 := eqTB_yes (rfl : t0 = t0)
  have xo := x0o.toR
  go_cut [39] (fun v wx => v = .bool false ∧ Ext w6 wx)
  case first =>
    go_region_with (first
      | (go_at_call 33; refine (toGroup_new t0 _ _ (hv0.ext hX.drew) hs0).mono ?_; rintro e wd ⟨dv, rfl, do_, dr, hx⟩; obtain ⟨-, db, df, dc, rfl, -⟩ := id dr; have d0 := hx.cell (show w6.drew.cell? _ = some _ from xb00))
      | (go_at_call 21; refine (eqGroup_any t0 t0 _ _ _ (xo.ext (Ext.trans (Ext.drew (Ext.refl _)) hx)) dr.toR hs0).mono ?_; rintro e we ⟨rfl, hxe⟩; rw [hq0]))
    all_goals
      go_wp2_with fail
      go_meet
      case rel => exact ⟨rfl, (Ext.trans (Ext.drew (Ext.refl _)) hx).trans hxe⟩
  case rest =>
    obtain ⟨rfl, hx⟩ := hcut
    obtain ⟨w7, rfl⟩ : ∃ z : World, z = wc := ⟨_, rfl⟩
    have zz7 := Ext.size hx
    replace hX := Ext.trans hX hx
    replace b00 := Ext.cell hx b00
    replace xb00 := Ext.cell hx xb00
    replace x0o := OwnV.ext x0o hx (by omega)
    clear hx xo
    go_wp2
    go_ret
    exact ⟨rfl, hX⟩
end Go.Proofs.Ytjhfieegkgndfaa
