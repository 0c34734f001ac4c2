/-
  The law FnExactTurnedBrace, walked.
-/
import Derived.Test.YtncmfbebdbchbaaProg
import Derived.Deep.DeepCutAuto
import Derived.Deep.RegionWith
import Derived.Test.YtncmfbebdbchbaaBase
import Derived.Test.YtncmfbebdbchbaaBase2
import Derived.Test.YtncmfbebdbchbaaRet
import Derived.Test.YtncmfbebdbchbaaPure1
import Derived.Test.YtncmfbebdbchbaaW7
import Derived.Test.YtncmfbebdbchbaaW8
import Derived.Test.YtncmfbebdbchbaaW9
import Derived.Test.YtncmfbebdbchbaaW10
import Derived.Test.YtncmfbebdbchbaaK1
import Derived.Test.YtncmfbebdbchbaaK2
import Derived.Test.YtncmfbebdbchbaaK3
import Derived.Test.YtncmfbebdbchbaaK4
import Derived.Test.YtncmfbebdbchbaaPureInv
import Derived.Test.YtncmfbebdbchbaaPureTurn
import Derived.Test.YtncmfbebdbchbaaW39
namespace Go.Proofs.Ytncmfbebdbchbaa
set_option linter.unusedVariables false
set_option linter.unusedSimpArgs false
open Go.RowKit

set_option maxRecDepth 100000 in
set_option maxHeartbeats 2000000 in
theorem lawTurnedBrace (w : World) (t0 : List (List Int)) (v0 : Value) (hv0 : RowsR w v0 t0) (hl0 : t0.length ≤ maxLen) (hr0 : ∀ i, (row t0 i).length ≤ maxLen) : Calls Try.prog 9 #[.agg #[v0]] w fun e w' => e = .returned (.bool true) ∧ Ext w w' := by
  obtain ⟨v0a, v0c, rfl, -⟩ := id hv0
  have HR0 := Lib.hid hr0
  clear hr0
  have hX : Ext w (w.alloc (.cells #[.slice v0a t0.length v0c] 24)) := (Ext.refl _).alloc _
  have zX : w.heap.size + 1 = (w.alloc (.cells #[.slice v0a t0.length v0c] 24)).heap.size := by simp
  have b00 : (w.alloc (.cells #[.slice v0a t0.length v0c] 24)).cell? ⟨w.heap.size, 0, none⟩ = some (.slice v0a t0.length v0c) := by simp [go_sem]
  go_enter Try.func9, Try.ntmps9
  go_wp2_with fail
  generalize (w.alloc (.cells #[.slice v0a t0.length v0c] 24)) = A0 at *
  refine (szGroup_any t0 _ _ _ (hv0.ext hX) hl0 HR0.out (by omega) (by omega)).mono ?_
  rintro e w1 ⟨q0, rfl, gq0, gp0, gr0, hx⟩
  have GR0 := Lib.hid gr0
  clear gr0
  by_cases hneg0 : q0 < 0
  · go_wp2
    go_ret
    exact ⟨rfl, hX.trans hx⟩
  have hs0 := GR0.out (by omega)
  clear GR0
  have zz1 := Ext.size hx
  replace hX := Ext.trans hX hx
  replace b00 := Ext.cell hx b00
  clear hx
  go_wp2_with fail
  refine (toGroup_new t0 _ _ (hv0.ext hX) hs0).mono ?_
  rintro e w2 ⟨sv, rfl, so, sr, hx⟩
  obtain ⟨-, sb, sf, sc, rfl, -⟩ := id sr
  have zz2 := Ext.size hx
  replace hX := Ext.trans hX hx
  replace b00 := Ext.cell hx b00
  clear hx so
  go_wp2_with fail
  refine (TurnedBrace_spec _ _ _ sr).mono ?_
  rintro e w3 ⟨rv, ry, rfl, ro, hx⟩
  obtain ⟨⟨ra, rc, rfl, -⟩, ⟨rd, re, rfl, -⟩⟩ := id ro
  have zz3 := Ext.size hx
  replace hX := Ext.trans hX hx
  replace b00 := Ext.cell hx b00
  clear hx sr
  have hx : Ext w3 (w3.alloc (.cells #[.slice ra (ifG t0 t0 []).length rc, .slice rd (ifG t0 (turnT t0) []).length re] 41)) := (Ext.refl _).alloc _
  have zB : w3.heap.size + 1 = (w3.alloc (.cells #[.slice ra (ifG t0 t0 []).length rc, .slice rd (ifG t0 (turnT t0) []).length re] 41)).heap.size := by simp
  have rb0 : (w3.alloc (.cells #[.slice ra (ifG t0 t0 []).length rc, .slice rd (ifG t0 (turnT t0) []).length re] 41)).cell? ⟨w3.heap.size, 0, none⟩ = some (.slice ra (ifG t0 t0 []).length rc) := by simp [go_sem]
  have rb1 : (w3.alloc (.cells #[.slice ra (ifG t0 t0 []).length rc, .slice rd (ifG t0 (turnT t0) []).length re] 41)).cell? ⟨w3.heap.size, 1, none⟩ = some (.slice rd (ifG t0 (turnT t0) []).length re) := by simp [go_sem]
  replace hX := Ext.trans hX hx
  replace b00 := Ext.cell hx b00
  replace ro := ro.ext hx
  clear hx
  go_wp2_with fail
  generalize (w3.alloc (.cells #[.slice ra (ifG t0 t0 []).length rc, .slice rd (ifG t0 (turnT t0) []).length re] 41)) = w4 at *
  have hA := Ext.refl w4
  refine (toGroup_new t0 _ _ (hv0.ext hX) hs0).mono ?_
  rintro e w5 ⟨x0v, rfl, x0o, x0r, hx⟩
  obtain ⟨-, x0b, x0f, x0c, rfl, -⟩ := id x0r
  have zz5 := Ext.size hx
  replace hX := Ext.trans hX hx
  replace hA := Ext.trans hA hx
  replace b00 := Ext.cell hx b00
  replace rb0 := Ext.cell hx rb0
  replace rb1 := Ext.cell hx rb1
  clear hx
  have hx : Ext w5 (w5.alloc (.cells #[.slice (some ⟨x0b, x0f, none⟩) t0.length x0c] 29)) := (Ext.refl _).alloc _
  have zB0 : w5.heap.size + 1 = (w5.alloc (.cells #[.slice (some ⟨x0b, x0f, none⟩) t0.length x0c] 29)).heap.size := by simp
  have xb00 : (w5.alloc (.cells #[.slice (some ⟨x0b, x0f, none⟩) t0.length x0c] 29)).cell? ⟨w5.heap.size, 0, none⟩ = some (.slice (some ⟨x0b, x0f, none⟩) t0.length x0c) := by simp [go_sem]
  replace hX := Ext.trans hX hx
  replace hA := Ext.trans hA hx
  replace b00 := Ext.cell hx b00
  replace rb0 := Ext.cell hx rb0
  replace rb1 := Ext.cell hx rb1
  replace x0o := OwnV.ext x0o hx (Nat.le_refl _)
  replace x0r := x0r.ext hx
  clear hx
  go_wp2_with fail
  generalize (w5.alloc (.cells #[.slice (some ⟨x0b, x0f, none⟩) t0.length x0c] 29)) = w6 at *
  refine (TurnedBrace_impl _ _ _ x0r).mono ?_
  rintro e w7 ⟨gv, gy, rfl, go, hx⟩
  obtain ⟨⟨-, ga, gc, rfl, -⟩, ⟨-, gd, ge, rfl, -⟩⟩ := go.open
  have zz7 := Ext.size hx
  replace hX := Ext.trans hX hx
  replace hA := Ext.trans hA hx
  replace b00 := Ext.cell hx b00
  replace rb0 := Ext.cell hx rb0
  replace rb1 := Ext.cell hx rb1
  replace xb00 := Ext.cell hx xb00
  replace x0o := OwnV.ext x0o hx (by omega)
  clear hx x0r
  have ht0 := total_nonneg (ifG t0 t0 [])
  have ht1 := total_nonneg (ifG t0 (turnT t0) [])
  have gs := OwnB.small go
  have hk0 := total_le (ifG t0 t0 []) gs.1
  have hk1 := total_le (ifG t0 (turnT t0) []) gs.2
  have hx : Ext w7 (w7.alloc (.cells #[.slice ga (ifG t0 t0 []).length gc, .slice gd (ifG t0 (turnT t0) []).length ge] 41)) := (Ext.refl _).alloc _
  have zG : w7.heap.size + 1 = (w7.alloc (.cells #[.slice ga (ifG t0 t0 []).length gc, .slice gd (ifG t0 (turnT t0) []).length ge] 41)).heap.size := by simp
  have gb0 : (w7.alloc (.cells #[.slice ga (ifG t0 t0 []).length gc, .slice gd (ifG t0 (turnT t0) []).length ge] 41)).cell? ⟨w7.heap.size, 0, none⟩ = some (.slice ga (ifG t0 t0 []).length gc) := by simp [go_sem]
  have gb1 : (w7.alloc (.cells #[.slice ga (ifG t0 t0 []).length gc, .slice gd (ifG t0 (turnT t0) []).length ge] 41)).cell? ⟨w7.heap.size, 1, none⟩ = some (.slice gd (ifG t0 (turnT t0) []).length ge) := by simp [go_sem]
  replace hX := Ext.trans hX hx
  replace hA := Ext.trans hA hx
  replace b00 := Ext.cell hx b00
  replace rb0 := Ext.cell hx rb0
  replace rb1 := Ext.cell hx rb1
  replace xb00 := Ext.cell hx xb00
  replace x0o := OwnV.ext x0o hx (by omega)
  replace go := OwnB.ext go hx (by omega)
  clear hx
  go_wp2_with fail
  generalize (w7.alloc (.cells #[.slice ga (ifG t0 t0 []).length gc, .slice gd (ifG t0 (turnT t0) []).length ge] 41)) = w8 at *
  have he0 := eqTB_yes (rfl : (ifG t0 t0 []) = (ifG t0 t0 []))
  have he1 := eqTB_yes (rfl : (ifG t0 (turnT t0) []) = (ifG t0 (turnT t0) []))
  refine (eqBrace_any (ifG t0 t0 []) (ifG t0 (turnT t0) []) (ifG t0 t0 []) (ifG t0 (turnT t0) []) _ _ _ _ _ go.toR.1 go.toR.2 (ro.1.ext hA) (ro.2.ext hA) gs.1 gs.2).mono ?_
  rintro e w9 ⟨rfl, hx⟩
  rw [he0]
  try rw [he1]
  have zz9 := Ext.size hx
  replace hX := Ext.trans hX hx
  replace hA := Ext.trans hA hx
  replace b00 := Ext.cell hx b00
  replace rb0 := Ext.cell hx rb0
  replace rb1 := Ext.cell hx rb1
  replace xb00 := Ext.cell hx xb00
  replace gb0 := Ext.cell hx gb0
  replace gb1 := Ext.cell hx gb1
  replace x0o := OwnV.ext x0o hx (by omega)
  replace go := OwnB.ext go hx (by omega)
  clear hx
  go_wp2_with fail
  have hq0 := eqTB_yes (rfl : t0 = t0)
  have xo := x0o.toR
  go_cut [45] (fun v wx => v = .bool false ∧ Ext w9 wx)
  case first =>
    go_region_with (first
      | (go_at_call 17; refine (toGroup_new t0 _ _ (hv0.ext hX.drew) hs0).mono ?_; rintro e wd ⟨dv, rfl, do_, dr, hx⟩; obtain ⟨-, db, df, dc, rfl, -⟩ := id dr; have d0 := hx.cell (show w9.drew.cell? _ = some _ from xb00))
      | (go_at_call 20; refine (eqGroup_any t0 t0 _ _ _ (xo.ext (Ext.trans (Ext.drew (Ext.refl _)) hx)) dr.toR hs0).mono ?_; rintro e we ⟨rfl, hxe⟩; rw [hq0]))
    all_goals
      go_wp2_with fail
      go_meet
      case rel => exact ⟨rfl, (Ext.trans (Ext.drew (Ext.refl _)) hx).trans hxe⟩
  case rest =>
    obtain ⟨rfl, hx⟩ := hcut
    obtain ⟨w10, rfl⟩ : ∃ z : World, z = wc := ⟨_, rfl⟩
    have zz10 := Ext.size hx
    replace hX := Ext.trans hX hx
    replace hA := Ext.trans hA hx
    replace b00 := Ext.cell hx b00
    replace rb0 := Ext.cell hx rb0
    replace rb1 := Ext.cell hx rb1
    replace xb00 := Ext.cell hx xb00
    replace gb0 := Ext.cell hx gb0
    replace gb1 := Ext.cell hx gb1
    replace x0o := OwnV.ext x0o hx (by omega)
    replace go := OwnB.ext go hx (by omega)
    clear hx xo
    go_wp2_with fail
    have hn0 := total_nonneg t0
    have hb0 := total_le t0 hs0
    refine (markGroup_any w4.heap.size w5.heap.size t0 _ _ _ x0o (by omega) (by omega) (by omega)).mono ?_
    rintro e w11 ⟨rfl, -, hT⟩
    clear x0o
    have zz11 := Touch.size hT
    replace hX := Ext.touch hX hT (by omega)
    replace hA := Ext.touch hA hT (by omega)
    replace b00 := Touch.cell hT b00 (by simp only []; omega)
    replace rb0 := Touch.cell hT rb0 (by simp only []; omega)
    replace rb1 := Touch.cell hT rb1 (by simp only []; omega)
    replace xb00 := Touch.cell hT xb00 (by simp only []; omega)
    replace gb0 := Touch.cell hT gb0 (by simp only []; omega)
    replace gb1 := Touch.cell hT gb1 (by simp only []; omega)
    replace go := OwnB.touch go hT (by omega) (by omega)
    clear hT
    go_wp2_with fail
    refine (eqBrace_any (ifG t0 t0 []) (ifG t0 (turnT t0) []) (ifG t0 t0 []) (ifG t0 (turnT t0) []) _ _ _ _ _ go.toR.1 go.toR.2 (ro.1.ext hA) (ro.2.ext hA) gs.1 gs.2).mono ?_
    rintro e w12 ⟨rfl, hx⟩
    rw [he0]
    try rw [he1]
    have zz12 := Ext.size hx
    replace hX := Ext.trans hX hx
    replace hA := Ext.trans hA hx
    replace b00 := Ext.cell hx b00
    replace rb0 := Ext.cell hx rb0
    replace rb1 := Ext.cell hx rb1
    replace xb00 := Ext.cell hx xb00
    replace gb0 := Ext.cell hx gb0
    replace gb1 := Ext.cell hx gb1
    replace go := OwnB.ext go hx (by omega)
    clear hx
    go_wp2_with fail
    refine (markBrace_any w6.heap.size w7.heap.size (ifG t0 t0 []) (ifG t0 (turnT t0) []) _ _ _ _ go (by omega) (by omega) (by omega)).mono ?_
    rintro e w13 ⟨rfl, gn, hT⟩
    replace go := gn
    clear gn
    have zz13 := Touch.size hT
    replace hX := Ext.touch hX hT (by omega)
    replace hA := Ext.touch hA hT (by omega)
    replace b00 := Touch.cell hT b00 (by simp only []; omega)
    replace rb0 := Touch.cell hT rb0 (by simp only []; omega)
    replace rb1 := Touch.cell hT rb1 (by simp only []; omega)
    replace xb00 := Touch.cell hT xb00 (by simp only []; omega)
    replace gb0 := Touch.cell hT gb0 (by simp only []; omega)
    replace gb1 := Touch.cell hT gb1 (by simp only []; omega)
    clear hT
    go_wp2_with fail
    refine (heldBrace_any (ifG t0 t0 []) (ifG t0 (turnT t0) []) _ _ _ _ go.toR.1 go.toR.2 gs.1 gs.2 (by omega) (by omega)).mono ?_
    rintro e w14 ⟨rfl, hx⟩
    have zz14 := Ext.size hx
    replace hX := Ext.trans hX hx
    replace hA := Ext.trans hA hx
    replace b00 := Ext.cell hx b00
    replace rb0 := Ext.cell hx rb0
    replace rb1 := Ext.cell hx rb1
    replace xb00 := Ext.cell hx xb00
    replace gb0 := Ext.cell hx gb0
    replace gb1 := Ext.cell hx gb1
    replace go := OwnB.ext go hx (by omega)
    clear hx
    go_wp2_with fail
    refine (toGroup_new t0 _ _ (hv0.ext hX) hs0).mono ?_
    rintro e w15 ⟨hv, rfl, ho, hr, hx⟩
    obtain ⟨-, hb, hf, hc, rfl, -⟩ := id hr
    have zz15 := Ext.size hx
    replace hX := Ext.trans hX hx
    replace hA := Ext.trans hA hx
    replace b00 := Ext.cell hx b00
    replace rb0 := Ext.cell hx rb0
    replace rb1 := Ext.cell hx rb1
    replace xb00 := Ext.cell hx xb00
    replace gb0 := Ext.cell hx gb0
    replace gb1 := Ext.cell hx gb1
    replace go := OwnB.ext go hx (by omega)
    clear hx ho
    go_wp2_with fail
    refine (TurnedBrace_impl _ _ _ hr).mono ?_
    rintro e w16 ⟨kv, ky, rfl, ko, hx⟩
    obtain ⟨⟨-, ka, kc, rfl, -⟩, ⟨-, kd, ke, rfl, -⟩⟩ := ko.open
    have zz16 := Ext.size hx
    replace hX := Ext.trans hX hx
    replace hA := Ext.trans hA hx
    replace b00 := Ext.cell hx b00
    replace rb0 := Ext.cell hx rb0
    replace rb1 := Ext.cell hx rb1
    replace xb00 := Ext.cell hx xb00
    replace gb0 := Ext.cell hx gb0
    replace gb1 := Ext.cell hx gb1
    replace go := OwnB.ext go hx (by omega)
    clear hx hr
    have hx : Ext w16 (w16.alloc (.cells #[.slice ka (ifG t0 t0 []).length kc, .slice kd (ifG t0 (turnT t0) []).length ke] 41)) := (Ext.refl _).alloc _
    have zK : w16.heap.size + 1 = (w16.alloc (.cells #[.slice ka (ifG t0 t0 []).length kc, .slice kd (ifG t0 (turnT t0) []).length ke] 41)).heap.size := by simp
    have kb0 : (w16.alloc (.cells #[.slice ka (ifG t0 t0 []).length kc, .slice kd (ifG t0 (turnT t0) []).length ke] 41)).cell? ⟨w16.heap.size, 0, none⟩ = some (.slice ka (ifG t0 t0 []).length kc) := by simp [go_sem]
    have kb1 : (w16.alloc (.cells #[.slice ka (ifG t0 t0 []).length kc, .slice kd (ifG t0 (turnT t0) []).length ke] 41)).cell? ⟨w16.heap.size, 1, none⟩ = some (.slice kd (ifG t0 (turnT t0) []).length ke) := by simp [go_sem]
    replace hX := Ext.trans hX hx
    replace hA := Ext.trans hA hx
    replace b00 := Ext.cell hx b00
    replace rb0 := Ext.cell hx rb0
    replace rb1 := Ext.cell hx rb1
    replace xb00 := Ext.cell hx xb00
    replace gb0 := Ext.cell hx gb0
    replace gb1 := Ext.cell hx gb1
    replace go := OwnB.ext go hx (by omega)
    replace ko := OwnB.ext ko hx (Nat.le_refl _)
    clear hx
    go_wp2_with fail
    generalize (w16.alloc (.cells #[.slice ka (ifG t0 t0 []).length kc, .slice kd (ifG t0 (turnT t0) []).length ke] 41)) = w17 at *
    refine (eqBrace_any (ifG t0 t0 []) (ifG t0 (turnT t0) []) (ifG t0 t0 []) (ifG t0 (turnT t0) []) _ _ _ _ _ ko.toR.1 ko.toR.2 (ro.1.ext hA) (ro.2.ext hA) gs.1 gs.2).mono ?_
    rintro e w18 ⟨rfl, hx⟩
    rw [he0]
    try rw [he1]
    have zz18 := Ext.size hx
    replace hX := Ext.trans hX hx
    replace hA := Ext.trans hA hx
    replace b00 := Ext.cell hx b00
    replace rb0 := Ext.cell hx rb0
    replace rb1 := Ext.cell hx rb1
    replace xb00 := Ext.cell hx xb00
    replace gb0 := Ext.cell hx gb0
    replace gb1 := Ext.cell hx gb1
    replace kb0 := Ext.cell hx kb0
    replace kb1 := Ext.cell hx kb1
    replace go := OwnB.ext go hx (by omega)
    clear hx
    go_wp2_with fail
    refine (heldBrace_any (ifG t0 t0 []) (ifG t0 (turnT t0) []) _ _ _ _ go.toR.1 go.toR.2 gs.1 gs.2 (by omega) (by omega)).mono ?_
    rintro e w19 ⟨rfl, hx⟩
    have zz19 := Ext.size hx
    replace hX := Ext.trans hX hx
    replace hA := Ext.trans hA hx
    replace b00 := Ext.cell hx b00
    replace rb0 := Ext.cell hx rb0
    replace rb1 := Ext.cell hx rb1
    replace xb00 := Ext.cell hx xb00
    replace gb0 := Ext.cell hx gb0
    replace gb1 := Ext.cell hx gb1
    replace kb0 := Ext.cell hx kb0
    replace kb1 := Ext.cell hx kb1
    replace go := OwnB.ext go hx (by omega)
    clear hx
    go_wp2
    go_ret
    exact ⟨rfl, hX⟩
end Go.Proofs.Ytncmfbebdbchbaa
