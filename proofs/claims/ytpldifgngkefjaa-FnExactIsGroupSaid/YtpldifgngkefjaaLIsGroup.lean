/-
  The law FnExactIsGroup, walked.
-/
import Derived.Test.YtpldifgngkefjaaProg
import Derived.Deep.DeepCutAuto
import Derived.Deep.RegionWith
import Derived.Test.YtpldifgngkefjaaBase
import Derived.Test.YtpldifgngkefjaaBase2
import Derived.Test.YtpldifgngkefjaaPure1
import Derived.Test.YtpldifgngkefjaaW7
import Derived.Test.YtpldifgngkefjaaW8
import Derived.Test.YtpldifgngkefjaaW9
import Derived.Test.YtpldifgngkefjaaW10
import Derived.Test.YtpldifgngkefjaaW11
namespace Go.Proofs.Ytpldifgngkefjaa
set_option linter.unusedVariables false
set_option linter.unusedSimpArgs false
open Go.RowKit

theorem lawIsGroup (w : World) (t : List (List Int)) (v : Value) (hv : RowsR w v t) (hl : t.length ≤ maxLen) (hr : ∀ i, (row t i).length ≤ maxLen) :
    Calls Try.prog 6 #[.agg #[v]] w fun e w' => e = .returned (.bool true) ∧ Ext w w' := by
  obtain ⟨a1, c1, rfl, h2⟩ := id hv
  clear h2
  have HR := Lib.hid hr
  clear hr
  have hx0 := ext_box w (.slice a1 t.length c1) 30
  have b0 := cell_new w (.slice a1 t.length c1) 30
  go_enter Try.func6, Try.ntmps6
  go_wp2_with fail
  refine (szGroup_any t _ _ _ (hv.ext hx0) hl HR.out (by omega) (by omega)).mono ?_
  rintro e w1 ⟨r, rfl, g1, g2, hx1⟩
  have G2 := Lib.hid g2
  clear g2
  by_cases hneg : r < 0
  · go_wp2
    go_ret
    exact ⟨rfl, hx0.trans hx1⟩
  have hs := G2.out (by omega)
  have hX1 := hx0.trans hx1
  have c1' := hx1.cell b0
  clear G2 hx1 b0
  go_wp2_with fail
  refine (toGroup_any t _ _ (hv.ext hX1) hs).mono ?_
  rintro e w2 ⟨b2, c2, rfl, ho2, hx2⟩
  have hX2 := hX1.trans hx2
  have c2' := hx2.cell c1'
  have hr2 := (ho2.rowsAt hs).rows hs.1 c2
  clear ho2 hx2 c1'
  go_wp2_with fail
  refine (IsGroup_spec t _ _ hr2).mono ?_
  rintro e w3 ⟨rfl, hx3⟩
  have hX3 := hX2.trans hx3
  have c3' := hx3.cell c2'
  clear hr2 hx3 c2'
  go_wp2_with fail
  refine (toGroup_any t _ _ (hv.ext hX3) hs).mono ?_
  rintro e w4 ⟨b4, c4, rfl, ho4, hx4⟩
  have hX4 := hX3.trans hx4
  have c4' := hx4.cell c3'
  clear hx4 c3'
  go_wp2_with fail
  have hb4 := ext_box w4 (.slice (some ⟨b4, 0, none⟩) t.length c4) 24
  have d4 := cell_new w4 (.slice (some ⟨b4, 0, none⟩) t.length c4) 24
  have hr4 := (ho4.rowsAt hs).rows hs.1 c4
  refine (IsGroup_impl t _ _ (hr4.ext hb4)).mono ?_
  rintro e w5 ⟨rfl, hx5⟩
  have hX5 := hX4.trans (hb4.trans hx5)
  have c5' := (hb4.trans hx5).cell c4'
  have d5 := hx5.cell d4
  have hr5 := (hr4.ext (hb4.trans hx5)).toR
  clear hr4 hx5 c4' d4 hb4 ho4
  have he := eqTB_yes (rfl : t = t)
  go_wp2
  go_cut [26] (fun v wx => v = .bool false ∧ Ext w5 wx)
  case first =>
    go_region_with (first
      | (go_at_call 20; refine (toGroup_any t _ _ (hv.ext hX5.drew) hs).mono ?_; rintro e w6 ⟨b6, c6, rfl, ho6, hx6⟩; have d6 := hx6.cell (show w5.drew.cell? _ = some _ from d5))
      | (go_at_call 11; refine (eqGroup_any t t _ _ _ (hr5.ext (Ext.trans (Ext.drew (Ext.refl _)) hx6)) ((ho6.rowsAt hs).rows hs.1 c6).toR hs).mono ?_; rintro e w7 ⟨rfl, hx7⟩; rw [he]))
    all_goals
      go_wp2_with fail
      go_meet
      case rel => exact ⟨rfl, (Ext.trans (Ext.drew (Ext.refl _)) hx6).trans hx7⟩
  case rest =>
    obtain ⟨rfl, hx7⟩ := hcut
    go_wp2
    go_ret
    exact ⟨rfl, hX5.trans hx7⟩
end Go.Proofs.Ytpldifgngkefjaa
