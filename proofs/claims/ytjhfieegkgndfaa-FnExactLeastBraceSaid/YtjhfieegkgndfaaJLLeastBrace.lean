/-
  The law FnExactLeastBrace, walked.
-/
import Derived.Test.YtjhfieegkgndfaaProg
import Derived.Deep.DeepCutAuto
import Derived.Deep.RegionWith
import Derived.Test.YtjhfieegkgndfaaJx0
import Derived.Test.YtjhfieegkgndfaaJx1
import Derived.Test.YtjhfieegkgndfaaJx3
import Derived.Test.YtjhfieegkgndfaaJx5
import Derived.Test.YtjhfieegkgndfaaJx9
import Derived.Test.YtjhfieegkgndfaaJx6
import Derived.Test.YtjhfieegkgndfaaJx11
import Derived.Test.YtjhfieegkgndfaaJx24
import Derived.Test.YtjhfieegkgndfaaJx8
import Derived.Test.YtjhfieegkgndfaaJx15
import Derived.Test.YtjhfieegkgndfaaJx23
import Derived.Test.YtjhfieegkgndfaaJx40
import Derived.Test.YtjhfieegkgndfaaJx42
namespace Go.Proofs.Ytjhfieegkgndfaa
set_option linter.unusedVariables false
set_option linter.unusedSimpArgs false
open Go.RowKit


set_option maxRecDepth 100000 in
set_option maxHeartbeats 2000000 in
theorem lawLeastBrace (w : World) (t0 : List (List Int)) (v0 : Value) (u0 : List (List Int)) (y0 : Value) (hv0 : RowsR w v0 t0) (hl0 : t0.length ≤ maxLen) (hr0 : ∀ i, (row t0 i).length ≤ maxLen) (hy0 : RowsR w y0 u0) (hm0 : u0.length ≤ maxLen) (ho0 : ∀ i, (row u0 i).length ≤ maxLen) : Calls Try.prog 4 #[.agg #[v0, y0]] w fun e w' => e = .returned (.bool true) ∧ Ext w w' := by
  obtain ⟨v0a, v0c, rfl, -⟩ := id hv0
  have HR0 := Lib.hid hr0
  clear hr0
  obtain ⟨y0a, y0c, rfl, -⟩ := id hy0
  have HO0 := Lib.hid ho0
  clear ho0
  have hX : Ext w (w.alloc (.cells #[.slice v0a t0.length v0c, .slice y0a u0.length y0c] 30)) := (Ext.refl _).alloc _
  have zX : w.heap.size + 1 = (w.alloc (.cells #[.slice v0a t0.length v0c, .slice y0a u0.length y0c] 30)).heap.size := by simp
  have b00 : (w.alloc (.cells #[.slice v0a t0.length v0c, .slice y0a u0.length y0c] 30)).cell? ⟨w.heap.size, 0, none⟩ = some (.slice v0a t0.length v0c) := by simp [go_sem]
  have b01 : (w.alloc (.cells #[.slice v0a t0.length v0c, .slice y0a u0.length y0c] 30)).cell? ⟨w.heap.size, 1, none⟩ = some (.slice y0a u0.length y0c) := by simp [go_sem]
  go_enter Try.func4, Try.ntmps4
  go_wp2_with fail
  generalize (w.alloc (.cells #[.slice v0a t0.length v0c, .slice y0a u0.length y0c] 30)) = A0 at *
  refine (szBrace_any t0 u0 _ _ _ _ (hv0.ext hX) (hy0.ext hX) hl0 HR0.out hm0 HO0.out (by omega) (by omega)).mono ?_
  rintro e w1 ⟨q0, rfl, gq0, gp0, gr0, hx⟩
  have GR0 := Lib.hid gr0
  clear gr0
  by_cases hneg0 : q0 < 0
  · go_wp2
    go_ret
    exact ⟨rfl, hX.trans hx⟩
  obtain ⟨hs0, hz0⟩ := GR0.out (by omega)
  clear GR0
  have zz1 := Ext.size hx
  replace hX := Ext.trans hX hx
  replace b00 := Ext.cell hx b00
  replace b01 := Ext.cell hx b01
  clear hx
  go_wp2_with fail
  refine (toBrace_new t0 u0 _ _ _ (hv0.ext hX) (hy0.ext hX) hs0 hz0).mono ?_
  rintro e w2 ⟨sv, sy, rfl, so, sr, ss, hx⟩
  obtain ⟨-, sb, sf, sc, rfl, -⟩ := id sr
  obtain ⟨-, sd, sg, se, rfl, -⟩ := id ss
  have zz2 := Ext.size hx
  replace hX := Ext.trans hX hx
  replace b00 := Ext.cell hx b00
  replace b01 := Ext.cell hx b01
  clear hx so
  go_wp2_with fail
  refine (LeastBrace_spec _ _ _ _ _ sr ss).mono ?_
  rintro e w3 ⟨rv, ry, rfl, ro, hx⟩
  obtain ⟨⟨ra, rc, rfl, -⟩, ⟨rd, re, rfl, -⟩⟩ := id ro
  have zz3 := Ext.size hx
  replace hX := Ext.trans hX hx
  replace b00 := Ext.cell hx b00
  replace b01 := Ext.cell hx b01
  clear hx sr ss
  have hx : Ext w3 (w3.alloc (.cells #[.slice ra (lbA t0 u0).length rc, .slice rd (lbB t0 u0).length re] 24)) := (Ext.refl _).alloc _
  have zB : w3.heap.size + 1 = (w3.alloc (.cells #[.slice ra (lbA t0 u0).length rc, .slice rd (lbB t0 u0).length re] 24)).heap.size := by simp
  have rb0 : (w3.alloc (.cells #[.slice ra (lbA t0 u0).length rc, .slice rd (lbB t0 u0).length re] 24)).cell? ⟨w3.heap.size, 0, none⟩ = some (.slice ra (lbA t0 u0).length rc) := by simp [go_sem]
  have rb1 : (w3.alloc (.cells #[.slice ra (lbA t0 u0).length rc, .slice rd (lbB t0 u0).length re] 24)).cell? ⟨w3.heap.size, 1, none⟩ = some (.slice rd (lbB t0 u0).length re) := by simp [go_sem]
  replace hX := Ext.trans hX hx
  replace b00 := Ext.cell hx b00
  replace b01 := Ext.cell hx b01
  replace ro := ro.ext hx
  clear hx
  go_wp2_with fail
  generalize (w3.alloc (.cells #[.slice ra (lbA t0 u0).length rc, .slice rd (lbB t0 u0).length re] 24)) = w4 at *
  have hA := Ext.refl w4
  refine (toBrace_new t0 u0 _ _ _ (hv0.ext hX) (hy0.ext hX) hs0 hz0).mono ?_
  rintro e w5 ⟨x0v, x0y, rfl, x0o, x0r, x0s, hx⟩
  obtain ⟨-, x0b, x0f, x0c, rfl, -⟩ := id x0r
  obtain ⟨-, x0d, x0g, x0e, rfl, -⟩ := id x0s
  have zz5 := Ext.size hx
  replace hX := Ext.trans hX hx
  replace hA := Ext.trans hA hx
  replace b00 := Ext.cell hx b00
  replace b01 := Ext.cell hx b01
  replace rb0 := Ext.cell hx rb0
  replace rb1 := Ext.cell hx rb1
  clear hx
  have hx : Ext w5 (w5.alloc (.cells #[.slice (some ⟨x0b, x0f, none⟩) t0.length x0c, .slice (some ⟨x0d, x0g, none⟩) u0.length x0e] 24)) := (Ext.refl _).alloc _
  have zB0 : w5.heap.size + 1 = (w5.alloc (.cells #[.slice (some ⟨x0b, x0f, none⟩) t0.length x0c, .slice (some ⟨x0d, x0g, none⟩) u0.length x0e] 24)).heap.size := by simp
  have xb00 : (w5.alloc (.cells #[.slice (some ⟨x0b, x0f, none⟩) t0.length x0c, .slice (some ⟨x0d, x0g, none⟩) u0.length x0e] 24)).cell? ⟨w5.heap.size, 0, none⟩ = some (.slice (some ⟨x0b, x0f, none⟩) t0.length x0c) := by simp [go_sem]
  have xb01 : (w5.alloc (.cells #[.slice (some ⟨x0b, x0f, none⟩) t0.length x0c, .slice (some ⟨x0d, x0g, none⟩) u0.length x0e] 24)).cell? ⟨w5.heap.size, 1, none⟩ = some (.slice (some ⟨x0d, x0g, none⟩) u0.length x0e) := by simp [go_sem]
  replace hX := Ext.trans hX hx
  replace hA := Ext.trans hA hx
  replace b00 := Ext.cell hx b00
  replace b01 := Ext.cell hx b01
  replace rb0 := Ext.cell hx rb0
  replace rb1 := Ext.cell hx rb1
  replace x0o := OwnB.ext x0o hx (Nat.le_refl _)
  replace x0r := x0r.ext hx
  replace x0s := x0s.ext hx
  clear hx
  go_wp2_with fail
  generalize (w5.alloc (.cells #[.slice (some ⟨x0b, x0f, none⟩) t0.length x0c, .slice (some ⟨x0d, x0g, none⟩) u0.length x0e] 24)) = w6 at *
  refine (LeastBrace_impl _ _ _ _ _ x0r x0s).mono ?_
  rintro e w7 ⟨gv, gy, rfl, go, hx⟩
  obtain ⟨⟨-, ga, gc, rfl, -⟩, ⟨-, gd, ge, rfl, -⟩⟩ := go.open
  have zz7 := Ext.size hx
  replace hX := Ext.trans hX hx
  replace hA := Ext.trans hA hx
  replace b00 := Ext.cell hx b00
  replace b01 := Ext.cell hx b01
  replace rb0 := Ext.cell hx rb0
  replace rb1 := Ext.cell hx rb1
  replace xb00 := Ext.cell hx xb00
  replace xb01 := Ext.cell hx xb01
  replace x0o := OwnB.ext x0o hx (by omega)
  clear hx x0r x0s
  have ht0 := total_nonneg (lbA t0 u0)
  have ht1 := total_nonneg (lbB t0 u0)
  have gs := OwnB.small go
  have hk0 := total_le (lbA t0 u0) gs.1
  have hk1 := total_le (lbB t0 u0) gs.2
  have hx : Ext w7 (w7.alloc (.cells #[.slice ga (lbA t0 u0).length gc, .slice gd (lbB t0 u0).length ge] 24)) := (Ext.refl _).alloc _
  have zG : w7.heap.size + 1 = (w7.alloc (.cells #[.slice ga (lbA t0 u0).length gc, .slice gd (lbB t0 u0).length ge] 24)).heap.size := by simp
  have gb0 : (w7.alloc (.cells #[.slice ga (lbA t0 u0).length gc, .slice gd (lbB t0 u0).length ge] 24)).cell? ⟨w7.heap.size, 0, none⟩ = some (.slice ga (lbA t0 u0).length gc) := by simp [go_sem]
  have gb1 : (w7.alloc (.cells #[.slice ga (lbA t0 u0).length gc, .slice gd (lbB t0 u0).length ge] 24)).cell? ⟨w7.heap.size, 1, none⟩ = some (.slice gd (lbB t0 u0).length ge) := by simp [go_sem]
  replace hX := Ext.trans hX hx
  replace hA := Ext.trans hA hx
  replace b00 := Ext.cell hx b00
  replace b01 := Ext.cell hx b01
  replace rb0 := Ext.cell hx rb0
  replace rb1 := Ext.cell hx rb1
  replace xb00 := Ext.cell hx xb00
  replace xb01 := Ext.cell hx xb01
  replace x0o := OwnB.ext x0o hx (by omega)
  replace go := OwnB.ext go hx (by omega)
  clear hx
  go_wp2_with fail
  generalize (w7.alloc (.cells #[.slice ga (lbA t0 u0).length gc, .slice gd (lbB t0 u0).length ge] 24)) = w8 at *
  have he0 := eqTB_yes (rfl : (lbA t0 u0) = (lbA t0 u0))
  have he1 := eqTB_yes (rfl : (lbB t0 u0) = (lbB t0 u0))
  refine (eqBrace_any (lbA t0 u0) (lbB t0 u0) (lbA t0 u0) (lbB t0 u0) _ _ _ _ _ go.toR.1 go.toR.2 (ro.1.ext hA) (ro.2.ext hA) gs.1 gs.2).mono ?_
  rintro e w9 ⟨rfl, hx⟩
  rw [he0]
  try rw [he1]
  have zz9 := Ext.size hx
  replace hX := Ext.trans hX hx
  replace hA := Ext.trans hA hx
  replace b00 := Ext.cell hx b00
  replace b01 := Ext.cell hx b01
  replace rb0 := Ext.cell hx rb0
  replace rb1 := Ext.cell hx rb1
  replace xb00 := Ext.cell hx xb00
  replace xb01 := Ext.cell hx xb01
  replace gb0 := Ext.cell hx gb0
  replace gb1 := Ext.cell hx gb1
  replace x0o := OwnB.ext x0o hx (by omega)
  replace go := OwnB.ext go hx (by omega)
  clear hx
  go_wp2_with fail
  have hq0 := eqTB_yes (rfl : t0 = t0)
  have hp0 := eqTB_yes (rfl : u0 = u0)
  have xo := x0o.toR
  go_cut [45] (fun v wx => v = .bool false ∧ Ext w9 wx)
  case first =>
    go_region_with (first
      | (go_at_call 15; refine (toBrace_new t0 u0 _ _ _ (hv0.ext hX.drew) (hy0.ext hX.drew) hs0 hz0).mono ?_; rintro e wd ⟨dv, dy, rfl, do_, dr, ds, hx⟩; obtain ⟨-, db, df, dc, rfl, -⟩ := id dr; obtain ⟨-, dd, dg, de, rfl, -⟩ := id ds; have d0 := hx.cell (show w9.drew.cell? _ = some _ from xb00); have d1 := hx.cell (show w9.drew.cell? _ = some _ from xb01))
      | (go_at_call 10; refine (eqBrace_any t0 u0 t0 u0 _ _ _ _ _ (xo.1.ext (Ext.trans (Ext.drew (Ext.refl _)) hx)) (xo.2.ext (Ext.trans (Ext.drew (Ext.refl _)) hx)) dr.toR ds.toR hs0 hz0).mono ?_; rintro e we ⟨rfl, hxe⟩; rw [hq0, hp0]))
    all_goals
      go_wp2_with fail
      go_meet
      case rel => exact ⟨rfl, (Ext.trans (Ext.drew (Ext.refl _)) hx).trans hxe⟩
  case rest =>
    obtain ⟨rfl, hx⟩ := hcut
    obtain ⟨w10, rfl⟩ : ∃ z : World, z = wc := ⟨_, rfl⟩
    have zz10 := Ext.size hx
    replace hX := Ext.trans hX hx
    replace hA := Ext.trans hA hx
    replace b00 := Ext.cell hx b00
    replace b01 := Ext.cell hx b01
    replace rb0 := Ext.cell hx rb0
    replace rb1 := Ext.cell hx rb1
    replace xb00 := Ext.cell hx xb00
    replace xb01 := Ext.cell hx xb01
    replace gb0 := Ext.cell hx gb0
    replace gb1 := Ext.cell hx gb1
    replace x0o := OwnB.ext x0o hx (by omega)
    replace go := OwnB.ext go hx (by omega)
    clear hx xo
    go_wp2_with fail
    have hn0 := total_nonneg t0
    have hb0 := total_le t0 hs0
    have hN0 := total_nonneg u0
    have hB0 := total_le u0 hz0
    refine (markBrace_any w4.heap.size w5.heap.size t0 u0 _ _ _ _ x0o (by omega) (by omega) (by omega)).mono ?_
    rintro e w11 ⟨rfl, -, hT⟩
    clear x0o
    have zz11 := Touch.size hT
    replace hX := Ext.touch hX hT (by omega)
    replace hA := Ext.touch hA hT (by omega)
    replace b00 := Touch.cell hT b00 (by simp only []; omega)
    replace b01 := Touch.cell hT b01 (by simp only []; omega)
    replace rb0 := Touch.cell hT rb0 (by simp only []; omega)
    replace rb1 := Touch.cell hT rb1 (by simp only []; omega)
    replace xb00 := Touch.cell hT xb00 (by simp only []; omega)
    replace xb01 := Touch.cell hT xb01 (by simp only []; omega)
    replace gb0 := Touch.cell hT gb0 (by simp only []; omega)
    replace gb1 := Touch.cell hT gb1 (by simp only []; omega)
    replace go := OwnB.touch go hT (by omega) (by omega)
    clear hT
    go_wp2_with fail
    refine (eqBrace_any (lbA t0 u0) (lbB t0 u0) (lbA t0 u0) (lbB t0 u0) _ _ _ _ _ go.toR.1 go.toR.2 (ro.1.ext hA) (ro.2.ext hA) gs.1 gs.2).mono ?_
    rintro e w12 ⟨rfl, hx⟩
    rw [he0]
    try rw [he1]
    have zz12 := Ext.size hx
    replace hX := Ext.trans hX hx
    replace hA := Ext.trans hA hx
    replace b00 := Ext.cell hx b00
    replace b01 := Ext.cell hx b01
    replace rb0 := Ext.cell hx rb0
    replace rb1 := Ext.cell hx rb1
    replace xb00 := Ext.cell hx xb00
    replace xb01 := Ext.cell hx xb01
    replace gb0 := Ext.cell hx gb0
    replace gb1 := Ext.cell hx gb1
    replace go := OwnB.ext go hx (by omega)
    clear hx
    go_wp2_with fail
    refine (markBrace_any w6.heap.size w7.heap.size (lbA t0 u0) (lbB t0 u0) _ _ _ _ go (by omega) (by omega) (by omega)).mono ?_
    rintro e w13 ⟨rfl, gn, hT⟩
    replace go := gn
    clear gn
    have zz13 := Touch.size hT
    replace hX := Ext.touch hX hT (by omega)
    replace hA := Ext.touch hA hT (by omega)
    replace b00 := Touch.cell hT b00 (by simp only []; omega)
    replace b01 := Touch.cell hT b01 (by simp only []; omega)
    replace rb0 := Touch.cell hT rb0 (by simp only []; omega)
    replace rb1 := Touch.cell hT rb1 (by simp only []; omega)
    replace xb00 := Touch.cell hT xb00 (by simp only []; omega)
    replace xb01 := Touch.cell hT xb01 (by simp only []; omega)
    replace gb0 := Touch.cell hT gb0 (by simp only []; omega)
    replace gb1 := Touch.cell hT gb1 (by simp only []; omega)
    clear hT
    go_wp2_with fail
    refine (heldBrace_any (lbA t0 u0) (lbB t0 u0) _ _ _ _ go.toR.1 go.toR.2 gs.1 gs.2 (by omega) (by omega)).mono ?_
    rintro e w14 ⟨rfl, hx⟩
    have zz14 := Ext.size hx
    replace hX := Ext.trans hX hx
    replace hA := Ext.trans hA hx
    replace b00 := Ext.cell hx b00
    replace b01 := Ext.cell hx b01
    replace rb0 := Ext.cell hx rb0
    replace rb1 := Ext.cell hx rb1
    replace xb00 := Ext.cell hx xb00
    replace xb01 := Ext.cell hx xb01
    replace gb0 := Ext.cell hx gb0
    replace gb1 := Ext.cell hx gb1
    replace go := OwnB.ext go hx (by omega)
    clear hx
    go_wp2_with fail
    refine (toBrace_new t0 u0 _ _ _ (hv0.ext hX) (hy0.ext hX) hs0 hz0).mono ?_
    rintro e w15 ⟨hv, hy, rfl, ho, hr, hs, hx⟩
    obtain ⟨-, hb, hf, hc, rfl, -⟩ := id hr
    obtain ⟨-, hd, hg, he, rfl, -⟩ := id hs
    have zz15 := Ext.size hx
    replace hX := Ext.trans hX hx
    replace hA := Ext.trans hA hx
    replace b00 := Ext.cell hx b00
    replace b01 := Ext.cell hx b01
    replace rb0 := Ext.cell hx rb0
    replace rb1 := Ext.cell hx rb1
    replace xb00 := Ext.cell hx xb00
    replace xb01 := Ext.cell hx xb01
    replace gb0 := Ext.cell hx gb0
    replace gb1 := Ext.cell hx gb1
    replace go := OwnB.ext go hx (by omega)
    clear hx ho
    go_wp2_with fail
    refine (LeastBrace_impl _ _ _ _ _ hr hs).mono ?_
    rintro e w16 ⟨kv, ky, rfl, ko, hx⟩
    obtain ⟨⟨-, ka, kc, rfl, -⟩, ⟨-, kd, ke, rfl, -⟩⟩ := ko.open
    have zz16 := Ext.size hx
    replace hX := Ext.trans hX hx
    replace hA := Ext.trans hA hx
    replace b00 := Ext.cell hx b00
    replace b01 := Ext.cell hx b01
    replace rb0 := Ext.cell hx rb0
    replace rb1 := Ext.cell hx rb1
    replace xb00 := Ext.cell hx xb00
    replace xb01 := Ext.cell hx xb01
    replace gb0 := Ext.cell hx gb0
    replace gb1 := Ext.cell hx gb1
    replace go := OwnB.ext go hx (by omega)
    clear hx hr hs
    have hx : Ext w16 (w16.alloc (.cells #[.slice ka (lbA t0 u0).length kc, .slice kd (lbB t0 u0).length ke] 24)) := (Ext.refl _).alloc _
    have zK : w16.heap.size + 1 = (w16.alloc (.cells #[.slice ka (lbA t0 u0).length kc, .slice kd (lbB t0 u0).length ke] 24)).heap.size := by simp
    have kb0 : (w16.alloc (.cells #[.slice ka (lbA t0 u0).length kc, .slice kd (lbB t0 u0).length ke] 24)).cell? ⟨w16.heap.size, 0, none⟩ = some (.slice ka (lbA t0 u0).length kc) := by simp [go_sem]
    have kb1 : (w16.alloc (.cells #[.slice ka (lbA t0 u0).length kc, .slice kd (lbB t0 u0).length ke] 24)).cell? ⟨w16.heap.size, 1, none⟩ = some (.slice kd (lbB t0 u0).length ke) := by simp [go_sem]
    replace hX := Ext.trans hX hx
    replace hA := Ext.trans hA hx
    replace b00 := Ext.cell hx b00
    replace b01 := Ext.cell hx b01
    replace rb0 := Ext.cell hx rb0
    replace rb1 := Ext.cell hx rb1
    replace xb00 := Ext.cell hx xb00
    replace xb01 := Ext.cell hx xb01
    replace gb0 := Ext.cell hx gb0
    replace gb1 := Ext.cell hx gb1
    replace go := OwnB.ext go hx (by omega)
    replace ko := OwnB.ext ko hx (Nat.le_refl _)
    clear hx
    go_wp2_with fail
    generalize (w16.alloc (.cells #[.slice ka (lbA t0 u0).length kc, .slice kd (lbB t0 u0).length ke] 24)) = w17 at *
    refine (eqBrace_any (lbA t0 u0) (lbB t0 u0) (lbA t0 u0) (lbB t0 u0) _ _ _ _ _ ko.toR.1 ko.toR.2 (ro.1.ext hA) (ro.2.ext hA) gs.1 gs.2).mono ?_
    rintro e w18 ⟨rfl, hx⟩
    rw [he0]
    try rw [he1]
    have zz18 := Ext.size hx
    replace hX := Ext.trans hX hx
    replace hA := Ext.trans hA hx
    replace b00 := Ext.cell hx b00
    replace b01 := Ext.cell hx b01
    replace rb0 := Ext.cell hx rb0
    replace rb1 := Ext.cell hx rb1
    replace xb00 := Ext.cell hx xb00
    replace xb01 := Ext.cell hx xb01
    replace gb0 := Ext.cell hx gb0
    replace gb1 := Ext.cell hx gb1
    replace kb0 := Ext.cell hx kb0
    replace kb1 := Ext.cell hx kb1
    replace go := OwnB.ext go hx (by omega)
    clear hx
    go_wp2_with fail
    refine (heldBrace_any (lbA t0 u0) (lbB t0 u0) _ _ _ _ go.toR.1 go.toR.2 gs.1 gs.2 (by omega) (by omega)).mono ?_
    rintro e w19 ⟨rfl, hx⟩
    have zz19 := Ext.size hx
    replace hX := Ext.trans hX hx
    replace hA := Ext.trans hA hx
    replace b00 := Ext.cell hx b00
    replace b01 := Ext.cell hx b01
    replace rb0 := Ext.cell hx rb0
    replace rb1 := Ext.cell hx rb1
    replace xb00 := Ext.cell hx xb00
    replace xb01 := Ext.cell hx xb01
    replace gb0 := Ext.cell hx gb0
    replace gb1 := Ext.cell hx gb1
    replace kb0 := Ext.cell hx kb0
    replace kb1 := Ext.cell hx kb1
    replace go := OwnB.ext go hx (by omega)
    clear hx
    go_wp2
    go_ret
    exact ⟨rfl, hX⟩
end Go.Proofs.Ytjhfieegkgndfaa
