/-
  The law FnExactQuotientGroup, walked.
-/
import Derived.Test.YtjcpeenalbgacaaProg
import Derived.Deep.DeepCutAuto
import Derived.Deep.RegionWith


import Derived.Test.YtjcpeenalbgacaaBase
import Derived.Test.YtjcpeenalbgacaaBase2
import Derived.Test.YtjcpeenalbgacaaRet
import Derived.Test.YtjcpeenalbgacaaPure1
import Derived.Test.YtjcpeenalbgacaaW7
import Derived.Test.YtjcpeenalbgacaaW8
import Derived.Test.YtjcpeenalbgacaaW9
import Derived.Test.YtjcpeenalbgacaaW10
import Derived.Test.YtjcpeenalbgacaaK1
import Derived.Test.YtjcpeenalbgacaaK2
import Derived.Test.YtjcpeenalbgacaaK3
import Derived.Test.YtjcpeenalbgacaaK4
import Derived.Test.YtjcpeenalbgacaaPureInv
import Derived.Test.YtjcpeenalbgacaaPureTurn
import Derived.Test.YtjcpeenalbgacaaPureConj
import Derived.Test.YtjcpeenalbgacaaPureSet
import Derived.Test.YtjcpeenalbgacaaPureNorm
import Derived.Test.YtjcpeenalbgacaaPureNum
import Derived.Test.YtjcpeenalbgacaaPureQuo
import Derived.Test.YtjcpeenalbgacaaW60
namespace Go.Proofs.Ytjcpeenalbgacaa
set_option linter.unusedVariables false
set_option linter.unusedSimpArgs false
open Go.RowKit


set_option maxRecDepth 100000 in
set_option maxHeartbeats 2000000 in
theorem lawQuotientGroup (w : World) (t0 : List (List Int)) (v0 : Value) (hv0 : RowsR w v0 t0) (hl0 : t0.length ≤ maxLen) (hr0 : ∀ i, (row t0 i).length ≤ maxLen) (a1 : Int) (_ : (Lit.int .i64 a1).wf = true) : Calls Try.prog 10 #[.agg #[v0], .int .i64 a1] w fun e w' => e = .returned (.bool true) ∧ Ext w w' := by
  obtain ⟨v0a, v0c, rfl, -⟩ := id hv0
  have HR0 := Lib.hid hr0
  clear hr0
  have hX : Ext w (w.alloc (.cells #[.slice v0a t0.length v0c] 51)) := (Ext.refl _).alloc _
  have zX : w.heap.size + 1 = (w.alloc (.cells #[.slice v0a t0.length v0c] 51)).heap.size := by simp
  have b00 : (w.alloc (.cells #[.slice v0a t0.length v0c] 51)).cell? ⟨w.heap.size, 0, none⟩ = some (.slice v0a t0.length v0c) := by simp [go_sem]
  go_enter Try.func10, Try.ntmps10
  go_wp2_with fail
  generalize (w.alloc (.cells #[.slice v0a t0.length v0c] 51)) = A0 at *
  refine (szGroup_any t0 _ _ _ (hv0.ext hX) hl0 HR0.out (by omega) (by omega)).mono ?_
  rintro e w1 ⟨q0, rfl, gq0, gp0, gr0, hx⟩
  have GR0 := Lib.hid gr0
  clear gr0
  by_cases hneg0 : q0 < 0
  · go_wp2
    go_ret
    exact ⟨rfl, hX.trans hx⟩
  have hs0 := GR0.out (by omega)
  clear GR0
  have zz1 := Ext.size hx
  replace hX := Ext.trans hX hx
  replace b00 := Ext.cell hx b00
  clear hx
  go_wp2_with fail
  refine (toGroup_new t0 _ _ (hv0.ext hX) hs0).mono ?_
  rintro e w2 ⟨sv, rfl, so, sr, hx⟩
  obtain ⟨-, sb, sf, sc, rfl, -⟩ := id sr
  have zz2 := Ext.size hx
  replace hX := Ext.trans hX hx
  replace b00 := Ext.cell hx b00
  clear hx so
  go_wp2_with fail
  refine (QuotientGroup_spec _ _ _ _ sr).mono ?_
  rintro e w3 ⟨rv, rfl, ro, hx⟩
  obtain ⟨ra, rc, rfl, -⟩ := id ro
  have zz3 := Ext.size hx
  replace hX := Ext.trans hX hx
  replace b00 := Ext.cell hx b00
  clear hx sr
  have hx : Ext w3 (w3.alloc (.cells #[.slice ra (quoV t0 a1).length rc] 53)) := (Ext.refl _).alloc _
  have zB : w3.heap.size + 1 = (w3.alloc (.cells #[.slice ra (quoV t0 a1).length rc] 53)).heap.size := by simp
  have rb0 : (w3.alloc (.cells #[.slice ra (quoV t0 a1).length rc] 53)).cell? ⟨w3.heap.size, 0, none⟩ = some (.slice ra (quoV t0 a1).length rc) := by simp [go_sem]
  replace hX := Ext.trans hX hx
  replace b00 := Ext.cell hx b00
  replace ro := ro.ext hx
  clear hx
  go_wp2_with fail
  generalize (w3.alloc (.cells #[.slice ra (quoV t0 a1).length rc] 53)) = w4 at *
  have hA := Ext.refl w4
  refine (toGroup_new t0 _ _ (hv0.ext hX) hs0).mono ?_
  rintro e w5 ⟨x0v, rfl, x0o, x0r, hx⟩
  obtain ⟨-, x0b, x0f, x0c, rfl, -⟩ := id x0r
  have zz5 := Ext.size hx
  replace hX := Ext.trans hX hx
  replace hA := Ext.trans hA hx
  replace b00 := Ext.cell hx b00
  replace rb0 := Ext.cell hx rb0
  clear hx
  have hx : Ext w5 (w5.alloc (.cells #[.slice (some ⟨x0b, x0f, none⟩) t0.length x0c] 53)) := (Ext.refl _).alloc _
  have zB0 : w5.heap.size + 1 = (w5.alloc (.cells #[.slice (some ⟨x0b, x0f, none⟩) t0.length x0c] 53)).heap.size := by simp
  have xb00 : (w5.alloc (.cells #[.slice (some ⟨x0b, x0f, none⟩) t0.length x0c] 53)).cell? ⟨w5.heap.size, 0, none⟩ = some (.slice (some ⟨x0b, x0f, none⟩) t0.length x0c) := by simp [go_sem]
  replace hX := Ext.trans hX hx
  replace hA := Ext.trans hA hx
  replace b00 := Ext.cell hx b00
  replace rb0 := Ext.cell hx rb0
  replace x0o := OwnV.ext x0o hx (Nat.le_refl _)
  replace x0r := x0r.ext hx
  clear hx
  go_wp2_with fail
  generalize (w5.alloc (.cells #[.slice (some ⟨x0b, x0f, none⟩) t0.length x0c] 53)) = w6 at *
  refine (QuotientGroup_impl _ _ _ _ x0r).mono ?_
  rintro e w7 ⟨gv, rfl, go, hx⟩
  obtain ⟨-, ga, gc, rfl, -⟩ := id go
  have zz7 := Ext.size hx
  replace hX := Ext.trans hX hx
  replace hA := Ext.trans hA hx
  replace b00 := Ext.cell hx b00
  replace rb0 := Ext.cell hx rb0
  replace xb00 := Ext.cell hx xb00
  replace x0o := OwnV.ext x0o hx (by omega)
  clear hx x0r
  have ht0 := total_nonneg (quoV t0 a1)
  have gs := OwnV.small go
  have hk0 := total_le (quoV t0 a1) gs
  have hx : Ext w7 (w7.alloc (.cells #[.slice ga (quoV t0 a1).length gc] 53)) := (Ext.refl _).alloc _
  have zG : w7.heap.size + 1 = (w7.alloc (.cells #[.slice ga (quoV t0 a1).length gc] 53)).heap.size := by simp
  have gb0 : (w7.alloc (.cells #[.slice ga (quoV t0 a1).length gc] 53)).cell? ⟨w7.heap.size, 0, none⟩ = some (.slice ga (quoV t0 a1).length gc) := by simp [go_sem]
  replace hX := Ext.trans hX hx
  replace hA := Ext.trans hA hx
  replace b00 := Ext.cell hx b00
  replace rb0 := Ext.cell hx rb0
  replace xb00 := Ext.cell hx xb00
  replace x0o := OwnV.ext x0o hx (by omega)
  replace go := OwnV.ext go hx (by omega)
  clear hx
  go_wp2_with fail
  generalize (w7.alloc (.cells #[.slice ga (quoV t0 a1).length gc] 53)) = w8 at *
  have he0 := eqTB_yes (rfl : (quoV t0 a1) = (quoV t0 a1))
  refine (eqGroup_any (quoV t0 a1) (quoV t0 a1) _ _ _ go.toR (ro.ext hA) gs).mono ?_
  rintro e w9 ⟨rfl, hx⟩
  rw [he0]
  have zz9 := Ext.size hx
  replace hX := Ext.trans hX hx
  replace hA := Ext.trans hA hx
  replace b00 := Ext.cell hx b00
  replace rb0 := Ext.cell hx rb0
  replace xb00 := Ext.cell hx xb00
  replace gb0 := Ext.cell hx gb0
  replace x0o := OwnV.ext x0o hx (by omega)
  replace go := OwnV.ext go hx (by omega)
  clear hx
  go_wp2_with fail
  have hq0 := eqTB_yes (rfl : t0 = t0)
  have xo := x0o.toR
  go_cut [49] (fun v wx => v = .bool false ∧ Ext w9 wx)
  case first =>
    go_region_with (first
      | (go_at_call 42; refine (toGroup_new t0 _ _ (hv0.ext hX.drew) hs0).mono ?_; rintro e wd ⟨dv, rfl, do_, dr, hx⟩; obtain ⟨-, db, df, dc, rfl, -⟩ := id dr; have d0 := hx.cell (show w9.drew.cell? _ = some _ from xb00))
      | (go_at_call 44; refine (eqGroup_any t0 t0 _ _ _ (xo.ext (Ext.trans (Ext.drew (Ext.refl _)) hx)) dr.toR hs0).mono ?_; rintro e we ⟨rfl, hxe⟩; rw [hq0]))
    all_goals
      go_wp2_with fail
      go_meet
      case rel => exact ⟨rfl, (Ext.trans (Ext.drew (Ext.refl _)) hx).trans hxe⟩
  case rest =>
    obtain ⟨rfl, hx⟩ := hcut
    obtain ⟨w10, rfl⟩ : ∃ z : World, z = wc := ⟨_, rfl⟩
    have zz10 := Ext.size hx
    replace hX := Ext.trans hX hx
    replace hA := Ext.trans hA hx
    replace b00 := Ext.cell hx b00
    replace rb0 := Ext.cell hx rb0
    replace xb00 := Ext.cell hx xb00
    replace gb0 := Ext.cell hx gb0
    replace x0o := OwnV.ext x0o hx (by omega)
    replace go := OwnV.ext go hx (by omega)
    clear hx xo
    go_wp2_with fail
    have hn0 := total_nonneg t0
    have hb0 := total_le t0 hs0
    refine (markGroup_any w4.heap.size w5.heap.size t0 _ _ _ x0o (by omega) (by omega) (by omega)).mono ?_
    rintro e w11 ⟨rfl, -, hT⟩
    clear x0o
    have zz11 := Touch.size hT
    replace hX := Ext.touch hX hT (by omega)
    replace hA := Ext.touch hA hT (by omega)
    replace b00 := Touch.cell hT b00 (by simp only []; omega)
    replace rb0 := Touch.cell hT rb0 (by simp only []; omega)
    replace xb00 := Touch.cell hT xb00 (by simp only []; omega)
    replace gb0 := Touch.cell hT gb0 (by simp only []; omega)
    replace go := OwnV.touch go hT (by omega) (by omega)
    clear hT
    go_wp2_with fail
    refine (eqGroup_any (quoV t0 a1) (quoV t0 a1) _ _ _ go.toR (ro.ext hA) gs).mono ?_
    rintro e w12 ⟨rfl, hx⟩
    rw [he0]
    have zz12 := Ext.size hx
    replace hX := Ext.trans hX hx
    replace hA := Ext.trans hA hx
    replace b00 := Ext.cell hx b00
    replace rb0 := Ext.cell hx rb0
    replace xb00 := Ext.cell hx xb00
    replace gb0 := Ext.cell hx gb0
    replace go := OwnV.ext go hx (by omega)
    clear hx
    go_wp2_with fail
    refine (markGroup_any w6.heap.size w7.heap.size (quoV t0 a1) _ _ _ go (by omega) (by omega) (by omega)).mono ?_
    rintro e w13 ⟨rfl, gn, hT⟩
    replace go := gn
    clear gn
    have zz13 := Touch.size hT
    replace hX := Ext.touch hX hT (by omega)
    replace hA := Ext.touch hA hT (by omega)
    replace b00 := Touch.cell hT b00 (by simp only []; omega)
    replace rb0 := Touch.cell hT rb0 (by simp only []; omega)
    replace xb00 := Touch.cell hT xb00 (by simp only []; omega)
    replace gb0 := Touch.cell hT gb0 (by simp only []; omega)
    clear hT
    go_wp2_with fail
    refine (heldGroup_any (quoV t0 a1) _ _ _ go.toR gs (by omega) (by omega)).mono ?_
    rintro e w14 ⟨rfl, hx⟩
    have zz14 := Ext.size hx
    replace hX := Ext.trans hX hx
    replace hA := Ext.trans hA hx
    replace b00 := Ext.cell hx b00
    replace rb0 := Ext.cell hx rb0
    replace xb00 := Ext.cell hx xb00
    replace gb0 := Ext.cell hx gb0
    replace go := OwnV.ext go hx (by omega)
    clear hx
    go_wp2_with fail
    refine (toGroup_new t0 _ _ (hv0.ext hX) hs0).mono ?_
    rintro e w15 ⟨hv, rfl, ho, hr, hx⟩
    obtain ⟨-, hb, hf, hc, rfl, -⟩ := id hr
    have zz15 := Ext.size hx
    replace hX := Ext.trans hX hx
    replace hA := Ext.trans hA hx
    replace b00 := Ext.cell hx b00
    replace rb0 := Ext.cell hx rb0
    replace xb00 := Ext.cell hx xb00
    replace gb0 := Ext.cell hx gb0
    replace go := OwnV.ext go hx (by omega)
    clear hx ho
    go_wp2_with fail
    refine (QuotientGroup_impl _ _ _ _ hr).mono ?_
    rintro e w16 ⟨kv, rfl, ko, hx⟩
    obtain ⟨-, ka, kc, rfl, -⟩ := id ko
    have zz16 := Ext.size hx
    replace hX := Ext.trans hX hx
    replace hA := Ext.trans hA hx
    replace b00 := Ext.cell hx b00
    replace rb0 := Ext.cell hx rb0
    replace xb00 := Ext.cell hx xb00
    replace gb0 := Ext.cell hx gb0
    replace go := OwnV.ext go hx (by omega)
    clear hx hr
    have hx : Ext w16 (w16.alloc (.cells #[.slice ka (quoV t0 a1).length kc] 53)) := (Ext.refl _).alloc _
    have zK : w16.heap.size + 1 = (w16.alloc (.cells #[.slice ka (quoV t0 a1).length kc] 53)).heap.size := by simp
    have kb0 : (w16.alloc (.cells #[.slice ka (quoV t0 a1).length kc] 53)).cell? ⟨w16.heap.size, 0, none⟩ = some (.slice ka (quoV t0 a1).length kc) := by simp [go_sem]
    replace hX := Ext.trans hX hx
    replace hA := Ext.trans hA hx
    replace b00 := Ext.cell hx b00
    replace rb0 := Ext.cell hx rb0
    replace xb00 := Ext.cell hx xb00
    replace gb0 := Ext.cell hx gb0
    replace go := OwnV.ext go hx (by omega)
    replace ko := OwnV.ext ko hx (Nat.le_refl _)
    clear hx
    go_wp2_with fail
    generalize (w16.alloc (.cells #[.slice ka (quoV t0 a1).length kc] 53)) = w17 at *
    refine (eqGroup_any (quoV t0 a1) (quoV t0 a1) _ _ _ ko.toR (ro.ext hA) gs).mono ?_
    rintro e w18 ⟨rfl, hx⟩
    rw [he0]
    have zz18 := Ext.size hx
    replace hX := Ext.trans hX hx
    replace hA := Ext.trans hA hx
    replace b00 := Ext.cell hx b00
    replace rb0 := Ext.cell hx rb0
    replace xb00 := Ext.cell hx xb00
    replace gb0 := Ext.cell hx gb0
    replace kb0 := Ext.cell hx kb0
    replace go := OwnV.ext go hx (by omega)
    clear hx
    go_wp2_with fail
    refine (heldGroup_any (quoV t0 a1) _ _ _ go.toR gs (by omega) (by omega)).mono ?_
    rintro e w19 ⟨rfl, hx⟩
    have zz19 := Ext.size hx
    replace hX := Ext.trans hX hx
    replace hA := Ext.trans hA hx
    replace b00 := Ext.cell hx b00
    replace rb0 := Ext.cell hx rb0
    replace xb00 := Ext.cell hx xb00
    replace gb0 := Ext.cell hx gb0
    replace kb0 := Ext.cell hx kb0
    replace go := OwnV.ext go hx (by omega)
    clear hx
    go_wp2
    go_ret
    exact ⟨rfl, hX⟩
end Go.Proofs.Ytjcpeenalbgacaa
