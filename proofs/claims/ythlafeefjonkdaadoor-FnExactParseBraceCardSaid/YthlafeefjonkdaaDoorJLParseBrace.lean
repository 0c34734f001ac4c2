/-
  The law FnExactParseBrace, walked.
-/
import Derived.Test.YthlafeefjonkdaaDoorProg
import Derived.Deep.DeepCutAuto
import Derived.Deep.RegionWith
import Derived.Test.YthlafeefjonkdaaDoorJx0
import Derived.Test.YthlafeefjonkdaaDoorJx1
import Derived.Test.YthlafeefjonkdaaDoorJx3
import Derived.Test.YthlafeefjonkdaaDoorJx4
import Derived.Test.YthlafeefjonkdaaDoorJx11
import Derived.Test.YthlafeefjonkdaaDoorJx23
import Derived.Test.YthlafeefjonkdaaDoorJx21
import Derived.Test.YthlafeefjonkdaaDoorJx22
import Derived.Test.YthlafeefjonkdaaDoorJx24
import Derived.Test.YthlafeefjonkdaaDoorJx25
namespace Go.Proofs.YthlafeefjonkdaaDoor
set_option linter.unusedVariables false
set_option linter.unusedSimpArgs false
open Go.RowKit


set_option maxRecDepth 100000 in
set_option maxHeartbeats 2000000 in
theorem lawParseBrace (w : World) (s : ByteArray) (m : Int) (hm : w.cell? ⟨0, 0, none⟩ = some (.int .i64 m)) (hmax : s.size ≤ maxLen) : Calls Tryd.prog 3 #[.string s] w fun e w' => e = .returned (.bool true) ∧ Ext w w' := by
  have hmx : maxLen < 9223372036854775808 := by unfold maxLen; omega
  by_cases hs : 1048576 < s.size
  · go_enter Tryd.func3, Tryd.ntmps3
    go_wp2
    go_ret
    exact ⟨rfl, Ext.refl _⟩
  have HS := Lib.hid (fun W => ParseBrace_spec s W (by omega))
  have HI := Lib.hid (fun W (h : W.cell? ⟨0, 0, none⟩ = some (.int .i64 m)) => ParseBrace_impl s m W h (by omega))
  have HM := Lib.hid hm
  clear hm
  generalize parT s.data.toList = T at *
  generalize parU s.data.toList = U at *
  generalize parC s.data.toList = C at *
  go_enter Tryd.func3, Tryd.ntmps3
  go_wp2_with fail
  refine (HS.out _).mono ?_
  rintro e w1 ⟨rv, ry, rfl, ro, hx⟩
  obtain ⟨⟨ra, rc, rfl, -⟩, ⟨rd, re, rfl, -⟩⟩ := id ro
  have hX := hx
  have zz1 := Ext.size hx
  clear hx 
  have hx : Ext w1 (w1.alloc (.cells #[.slice ra T.length rc, .slice rd U.length re] 24)) := (Ext.refl _).alloc _
  have zB : w1.heap.size + 1 = (w1.alloc (.cells #[.slice ra T.length rc, .slice rd U.length re] 24)).heap.size := by simp
  have rb0 : (w1.alloc (.cells #[.slice ra T.length rc, .slice rd U.length re] 24)).cell? ⟨w1.heap.size, 0, none⟩ = some (.slice ra T.length rc) := by simp [go_sem]
  have rb1 : (w1.alloc (.cells #[.slice ra T.length rc, .slice rd U.length re] 24)).cell? ⟨w1.heap.size, 1, none⟩ = some (.slice rd U.length re) := by simp [go_sem]
  replace hX := Ext.trans hX hx
  replace ro := ro.ext hx
  clear hx
  go_wp2_with fail
  generalize (w1.alloc (.cells #[.slice ra T.length rc, .slice rd U.length re] 24)) = w2 at *
  have hA := Ext.refl w2
  refine (HI.out _ (Ext.cell hX HM.out)).mono ?_
  rintro e w3 ⟨gv, gy, rfl, go, hx⟩
  obtain ⟨⟨-, ga, gc, rfl, -⟩, ⟨-, gd, ge, rfl, -⟩⟩ := go.open
  have zz3 := Ext.size hx
  replace hX := Ext.trans hX hx
  replace hA := Ext.trans hA hx
  replace rb0 := Ext.cell hx rb0
  replace rb1 := Ext.cell hx rb1
  clear hx 
  have ht0 := total_nonneg T
  have ht1 := total_nonneg U
  have gs := OwnB.small go
  have hk0 := total_le T gs.1
  have hk1 := total_le U gs.2
  have hx : Ext w3 (w3.alloc (.cells #[.slice ga T.length gc, .slice gd U.length ge] 24)) := (Ext.refl _).alloc _
  have zG : w3.heap.size + 1 = (w3.alloc (.cells #[.slice ga T.length gc, .slice gd U.length ge] 24)).heap.size := by simp
  have gb0 : (w3.alloc (.cells #[.slice ga T.length gc, .slice gd U.length ge] 24)).cell? ⟨w3.heap.size, 0, none⟩ = some (.slice ga T.length gc) := by simp [go_sem]
  have gb1 : (w3.alloc (.cells #[.slice ga T.length gc, .slice gd U.length ge] 24)).cell? ⟨w3.heap.size, 1, none⟩ = some (.slice gd U.length ge) := by simp [go_sem]
  replace hX := Ext.trans hX hx
  replace hA := Ext.trans hA hx
  replace rb0 := Ext.cell hx rb0
  replace rb1 := Ext.cell hx rb1
  replace go := OwnB.ext go hx (by omega)
  clear hx
  go_wp2_with fail
  generalize (w3.alloc (.cells #[.slice ga T.length gc, .slice gd U.length ge] 24)) = w4 at *
  have he0 := eqTB_yes (rfl : T = T)
  have he1 := eqTB_yes (rfl : U = U)
  refine (eqBrace_any T U T U _ _ _ _ _ go.toR.1 go.toR.2 (ro.1.ext hA) (ro.2.ext hA) gs.1 gs.2).mono ?_
  rintro e w5 ⟨rfl, hx⟩
  rw [he0]
  try rw [he1]
  have zz5 := Ext.size hx
  replace hX := Ext.trans hX hx
  replace hA := Ext.trans hA hx
  replace rb0 := Ext.cell hx rb0
  replace rb1 := Ext.cell hx rb1
  replace gb0 := Ext.cell hx gb0
  replace gb1 := Ext.cell hx gb1
  replace go := OwnB.ext go hx (by omega)
  clear hx
  go_wp2_with fail
  refine (markBrace_any w2.heap.size w3.heap.size T U _ _ _ _ go (by omega) (by omega) (by omega)).mono ?_
  rintro e w6 ⟨rfl, gn, hT⟩
  replace go := gn
  clear gn
  have zz6 := Touch.size hT
  replace hX := Ext.touch hX hT (by omega)
  replace hA := Ext.touch hA hT (by omega)
  replace rb0 := Touch.cell hT rb0 (by simp only []; omega)
  replace rb1 := Touch.cell hT rb1 (by simp only []; omega)
  replace gb0 := Touch.cell hT gb0 (by simp only []; omega)
  replace gb1 := Touch.cell hT gb1 (by simp only []; omega)
  clear hT
  go_wp2_with fail
  refine (heldBrace_any T U _ _ _ _ go.toR.1 go.toR.2 gs.1 gs.2 (by omega) (by omega)).mono ?_
  rintro e w7 ⟨rfl, hx⟩
  have zz7 := Ext.size hx
  replace hX := Ext.trans hX hx
  replace hA := Ext.trans hA hx
  replace rb0 := Ext.cell hx rb0
  replace rb1 := Ext.cell hx rb1
  replace gb0 := Ext.cell hx gb0
  replace gb1 := Ext.cell hx gb1
  replace go := OwnB.ext go hx (by omega)
  clear hx
  go_wp2_with fail
  refine (HI.out _ (Ext.cell hX HM.out)).mono ?_
  rintro e w8 ⟨kv, ky, rfl, ko, hx⟩
  obtain ⟨⟨-, ka, kc, rfl, -⟩, ⟨-, kd, ke, rfl, -⟩⟩ := ko.open
  have zz8 := Ext.size hx
  replace hX := Ext.trans hX hx
  replace hA := Ext.trans hA hx
  replace rb0 := Ext.cell hx rb0
  replace rb1 := Ext.cell hx rb1
  replace gb0 := Ext.cell hx gb0
  replace gb1 := Ext.cell hx gb1
  replace go := OwnB.ext go hx (by omega)
  clear hx 
  have hx : Ext w8 (w8.alloc (.cells #[.slice ka T.length kc, .slice kd U.length ke] 24)) := (Ext.refl _).alloc _
  have zK : w8.heap.size + 1 = (w8.alloc (.cells #[.slice ka T.length kc, .slice kd U.length ke] 24)).heap.size := by simp
  have kb0 : (w8.alloc (.cells #[.slice ka T.length kc, .slice kd U.length ke] 24)).cell? ⟨w8.heap.size, 0, none⟩ = some (.slice ka T.length kc) := by simp [go_sem]
  have kb1 : (w8.alloc (.cells #[.slice ka T.length kc, .slice kd U.length ke] 24)).cell? ⟨w8.heap.size, 1, none⟩ = some (.slice kd U.length ke) := by simp [go_sem]
  replace hX := Ext.trans hX hx
  replace hA := Ext.trans hA hx
  replace rb0 := Ext.cell hx rb0
  replace rb1 := Ext.cell hx rb1
  replace gb0 := Ext.cell hx gb0
  replace gb1 := Ext.cell hx gb1
  replace go := OwnB.ext go hx (by omega)
  replace ko := OwnB.ext ko hx (Nat.le_refl _)
  clear hx
  go_wp2_with fail
  generalize (w8.alloc (.cells #[.slice ka T.length kc, .slice kd U.length ke] 24)) = w9 at *
  refine (eqBrace_any T U T U _ _ _ _ _ ko.toR.1 ko.toR.2 (ro.1.ext hA) (ro.2.ext hA) gs.1 gs.2).mono ?_
  rintro e w10 ⟨rfl, hx⟩
  rw [he0]
  try rw [he1]
  have zz10 := Ext.size hx
  replace hX := Ext.trans hX hx
  replace hA := Ext.trans hA hx
  replace rb0 := Ext.cell hx rb0
  replace rb1 := Ext.cell hx rb1
  replace gb0 := Ext.cell hx gb0
  replace gb1 := Ext.cell hx gb1
  replace kb0 := Ext.cell hx kb0
  replace kb1 := Ext.cell hx kb1
  replace go := OwnB.ext go hx (by omega)
  clear hx
  go_wp2_with fail
  refine (heldBrace_any T U _ _ _ _ go.toR.1 go.toR.2 gs.1 gs.2 (by omega) (by omega)).mono ?_
  rintro e w11 ⟨rfl, hx⟩
  have zz11 := Ext.size hx
  replace hX := Ext.trans hX hx
  replace hA := Ext.trans hA hx
  replace rb0 := Ext.cell hx rb0
  replace rb1 := Ext.cell hx rb1
  replace gb0 := Ext.cell hx gb0
  replace gb1 := Ext.cell hx gb1
  replace kb0 := Ext.cell hx kb0
  replace kb1 := Ext.cell hx kb1
  replace go := OwnB.ext go hx (by omega)
  clear hx
  go_wp2
  go_ret
  exact ⟨rfl, hX⟩
end Go.Proofs.YthlafeefjonkdaaDoor
