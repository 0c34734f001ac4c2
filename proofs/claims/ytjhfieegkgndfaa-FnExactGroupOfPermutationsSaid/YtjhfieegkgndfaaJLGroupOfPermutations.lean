/-
  The law FnExactGroupOfPermutations, walked.
-/
import Derived.Test.YtjhfieegkgndfaaProg
import Derived.Deep.DeepCutAuto
import Derived.Deep.RegionWith
import Derived.Test.YtjhfieegkgndfaaJx0
import Derived.Test.YtjhfieegkgndfaaJx1
import Derived.Test.YtjhfieegkgndfaaJx3
import Derived.Test.YtjhfieegkgndfaaJx5
import Derived.Test.YtjhfieegkgndfaaJx6
import Derived.Test.YtjhfieegkgndfaaJx7
import Derived.Test.YtjhfieegkgndfaaJx9
import Derived.Test.YtjhfieegkgndfaaJx17
import Derived.Test.YtjhfieegkgndfaaJx23
import Derived.Test.YtjhfieegkgndfaaJx38
import Derived.Test.YtjhfieegkgndfaaJx41
namespace Go.Proofs.Ytjhfieegkgndfaa
set_option linter.unusedVariables false
set_option linter.unusedSimpArgs false
open Go.RowKit

theorem toRows_new (t : List (List Int)) (v : Value) (w : World) (hv : RowsR w v t) (hs : Small t) :
    Calls Try.prog 19 #[v] w fun e w' => ∃ u, e = .returned u ∧ OwnV w.heap.size w'.heap.size w' u t ∧ Rows w' u t ∧ Ext w w' :=
  (toInt64SS_any t v w hv hs).mono fun _ _ ⟨b, c, h1, h2, h3⟩ => ⟨_, h1, h2.v hs c, (h2.rowsAt hs).rows hs.1 c, h3⟩

set_option maxRecDepth 100000 in
set_option maxHeartbeats 2000000 in
theorem lawGroupOfPermutations (w : World) (a0 : Int) (_ : (Lit.int .i64 a0).wf = true) (t1 : List (List Int)) (v1 : Value) (hv1 : RowsR w v1 t1) (hl1 : t1.length ≤ maxLen) (hr1 : ∀ i, (row t1 i).length ≤ maxLen) : Calls Try.prog 5 #[.int .i64 a0, v1] w fun e w' => e = .returned (.bool true) ∧ Ext w w' := by
  obtain ⟨v1a, v1c, rfl, -⟩ := id hv1
  have HR1 := Lib.hid hr1
  clear hr1
  have hX := Ext.refl w
  go_enter Try.func5, Try.ntmps5
  go_wp2_with fail
  refine (szInt64SS_any t1 _ _ _ hv1 hl1 HR1.out (by omega) (by omega)).mono ?_
  rintro e w1 ⟨q1, rfl, gp1, gq1, gr1, hxe⟩
  have GR1 := Lib.hid gr1
  clear gr1
  have hx : Ext w w1 := by rw [hxe]; exact Ext.refl _
  clear hxe
  by_cases hneg1 : q1 < 0
  · go_wp2
    go_ret
    exact ⟨rfl, hX.trans hx⟩
  have hs1 := GR1.out (by omega)
  clear GR1
  have zz1 := Ext.size hx
  replace hX := Ext.trans hX hx
  clear hx
  go_wp2_with fail
  refine (toRows_new t1 _ _ (hv1.ext hX) hs1).mono ?_
  rintro e w2 ⟨sv, rfl, so, sr, hx⟩
  obtain ⟨-, sb, sf, sc, rfl, -⟩ := id sr
  have zz2 := Ext.size hx
  replace hX := Ext.trans hX hx
  clear hx so
  go_wp2_with fail
  refine (GroupOfPermutations_spec a0 t1 _ _ sr).mono ?_
  rintro e w3 ⟨rv, rfl, ro, hx⟩
  obtain ⟨ra, rc, rfl, -⟩ := id ro
  have zz3 := Ext.size hx
  replace hX := Ext.trans hX hx
  clear hx
  have hx : Ext w3 (w3.alloc (.cells #[.slice ra (gopV a0 t1).length rc] 37)) := (Ext.refl _).alloc _
  have zBr : w3.heap.size + 1 = (w3.alloc (.cells #[.slice ra (gopV a0 t1).length rc] 37)).heap.size := by simp
  have rb0 : (w3.alloc (.cells #[.slice ra (gopV a0 t1).length rc] 37)).cell? ⟨w3.heap.size, 0, none⟩ = some (.slice ra (gopV a0 t1).length rc) := by simp [go_sem]
  replace hX := Ext.trans hX hx
  replace ro := ro.ext hx
  clear hx
  go_wp2_with fail
  generalize (w3.alloc (.cells #[.slice ra (gopV a0 t1).length rc] 37)) = w4 at *
  have hA := Ext.refl w4
  refine (toRows_new t1 _ _ (hv1.ext hX) hs1).mono ?_
  rintro e w5 ⟨xv, rfl, xo, xr, hx⟩
  obtain ⟨-, xb, xf, xc, rfl, -⟩ := id xr
  have zz5 := Ext.size hx
  replace hX := Ext.trans hX hx
  replace hA := Ext.trans hA hx
  replace rb0 := Ext.cell hx rb0
  clear hx
  go_wp2_with fail
  refine (GroupOfPermutations_impl a0 t1 _ _ xr).mono ?_
  rintro e w6 ⟨gv, rfl, go, hx⟩
  obtain ⟨-, ga, gc, rfl, -⟩ := id go
  have zz6 := Ext.size hx
  replace hX := Ext.trans hX hx
  replace hA := Ext.trans hA hx
  replace rb0 := Ext.cell hx rb0
  replace xo := OwnV.ext xo hx (by omega)
  clear hx
  have gs := OwnV.small go
  have hx : Ext w6 (w6.alloc (.cells #[.slice ga (gopV a0 t1).length gc] 37)) := (Ext.refl _).alloc _
  have zBg : w6.heap.size + 1 = (w6.alloc (.cells #[.slice ga (gopV a0 t1).length gc] 37)).heap.size := by simp
  have gb0 : (w6.alloc (.cells #[.slice ga (gopV a0 t1).length gc] 37)).cell? ⟨w6.heap.size, 0, none⟩ = some (.slice ga (gopV a0 t1).length gc) := by simp [go_sem]
  replace hX := Ext.trans hX hx
  replace hA := Ext.trans hA hx
  replace rb0 := Ext.cell hx rb0
  replace xo := OwnV.ext xo hx (by omega)
  replace go := OwnV.ext go hx (by omega)
  clear hx
  go_wp2_with fail
  generalize (w6.alloc (.cells #[.slice ga (gopV a0 t1).length gc] 37)) = w7 at *
  have ht0 := total_nonneg (gopV a0 t1)
  have hk0 := total_le (gopV a0 t1) gs
  have he0 := eqTB_yes (rfl : (gopV a0 t1) = (gopV a0 t1))
  have hq1 := eqTB_yes (rfl : t1 = t1)
  refine (eqGroup_any (gopV a0 t1) (gopV a0 t1) _ _ _ go.toR (ro.ext hA) gs).mono ?_
  rintro e w8 ⟨rfl, hx⟩
  rw [he0]
  have zz8 := Ext.size hx
  replace hX := Ext.trans hX hx
  replace hA := Ext.trans hA hx
  replace rb0 := Ext.cell hx rb0
  replace gb0 := Ext.cell hx gb0
  replace xo := OwnV.ext xo hx (by omega)
  replace go := OwnV.ext go hx (by omega)
  clear hx
  go_wp2_with fail
  refine (toRows_new t1 _ _ (hv1.ext hX) hs1).mono ?_
  rintro e w9 ⟨jv, rfl, jo, jr, hx⟩
  obtain ⟨-, jb, jf, jc, rfl, -⟩ := id jr
  have zz9 := Ext.size hx
  replace hX := Ext.trans hX hx
  replace hA := Ext.trans hA hx
  replace rb0 := Ext.cell hx rb0
  replace gb0 := Ext.cell hx gb0
  replace xo := OwnV.ext xo hx (by omega)
  replace go := OwnV.ext go hx (by omega)
  clear hx jo
  go_wp2_with fail
  refine (eqInt64SS_any t1 t1 _ _ _ xo.toR jr.toR hs1).mono ?_
  rintro e w10 ⟨rfl, hd⟩
  have hx := Drawn.ext hd
  clear hd jr
  rw [hq1]
  have zz10 := Ext.size hx
  replace hX := Ext.trans hX hx
  replace hA := Ext.trans hA hx
  replace rb0 := Ext.cell hx rb0
  replace gb0 := Ext.cell hx gb0
  replace xo := OwnV.ext xo hx (by omega)
  replace go := OwnV.ext go hx (by omega)
  clear hx
  go_wp2_with fail
  have hn1 := total_nonneg t1
  have hb1 := total_le t1 hs1
  refine (markInt64SS_new w4.heap.size w5.heap.size t1 _ _ _ xo (by omega) (by omega) (by omega)).mono ?_
  rintro e w11 ⟨rfl, -, hT⟩
  clear xo
  have zz11 := Touch.size hT
  replace hX := Ext.touch hX hT (by omega)
  replace hA := Ext.touch hA hT (by omega)
  replace rb0 := Touch.cell hT rb0 (by simp only []; omega)
  replace gb0 := Touch.cell hT gb0 (by simp only []; omega)
  replace go := OwnV.touch go hT (by omega) (by omega)
  clear hT
  go_wp2_with fail
  refine (eqGroup_any (gopV a0 t1) (gopV a0 t1) _ _ _ go.toR (ro.ext hA) gs).mono ?_
  rintro e w12 ⟨rfl, hx⟩
  rw [he0]
  have zz12 := Ext.size hx
  replace hX := Ext.trans hX hx
  replace hA := Ext.trans hA hx
  replace rb0 := Ext.cell hx rb0
  replace gb0 := Ext.cell hx gb0
  replace go := OwnV.ext go hx (by omega)
  clear hx
  go_wp2_with fail
  refine (markGroup_any w5.heap.size w6.heap.size (gopV a0 t1) _ _ _ go (by omega) (by omega) (by omega)).mono ?_
  rintro e w13 ⟨rfl, gn, hT⟩
  replace go := gn
  clear gn
  have zz13 := Touch.size hT
  replace hX := Ext.touch hX hT (by omega)
  replace hA := Ext.touch hA hT (by omega)
  replace rb0 := Touch.cell hT rb0 (by simp only []; omega)
  replace gb0 := Touch.cell hT gb0 (by simp only []; omega)
  clear hT
  go_wp2_with fail
  refine (heldGroup_any (gopV a0 t1) _ _ _ go.toR gs (by omega) (by omega)).mono ?_
  rintro e w14 ⟨rfl, hx⟩
  have zz14 := Ext.size hx
  replace hX := Ext.trans hX hx
  replace hA := Ext.trans hA hx
  replace rb0 := Ext.cell hx rb0
  replace gb0 := Ext.cell hx gb0
  replace go := OwnV.ext go hx (by omega)
  clear hx
  go_wp2_with fail
  refine (toRows_new t1 _ _ (hv1.ext hX) hs1).mono ?_
  rintro e w15 ⟨hv, rfl, ho, hr, hx⟩
  obtain ⟨-, hb, hf, hc, rfl, -⟩ := id hr
  have zz15 := Ext.size hx
  replace hX := Ext.trans hX hx
  replace hA := Ext.trans hA hx
  replace rb0 := Ext.cell hx rb0
  replace gb0 := Ext.cell hx gb0
  replace go := OwnV.ext go hx (by omega)
  clear hx ho
  go_wp2_with fail
  refine (GroupOfPermutations_impl a0 t1 _ _ hr).mono ?_
  rintro e w16 ⟨kv, rfl, ko, hx⟩
  obtain ⟨-, ka, kc, rfl, -⟩ := id ko
  have zz16 := Ext.size hx
  replace hX := Ext.trans hX hx
  replace hA := Ext.trans hA hx
  replace rb0 := Ext.cell hx rb0
  replace gb0 := Ext.cell hx gb0
  replace go := OwnV.ext go hx (by omega)
  clear hx
  have ks := OwnV.small ko
  have hx : Ext w16 (w16.alloc (.cells #[.slice ka (gopV a0 t1).length kc] 37)) := (Ext.refl _).alloc _
  have zBk : w16.heap.size + 1 = (w16.alloc (.cells #[.slice ka (gopV a0 t1).length kc] 37)).heap.size := by simp
  have kb0 : (w16.alloc (.cells #[.slice ka (gopV a0 t1).length kc] 37)).cell? ⟨w16.heap.size, 0, none⟩ = some (.slice ka (gopV a0 t1).length kc) := by simp [go_sem]
  replace hX := Ext.trans hX hx
  replace hA := Ext.trans hA hx
  replace rb0 := Ext.cell hx rb0
  replace gb0 := Ext.cell hx gb0
  replace go := OwnV.ext go hx (by omega)
  replace ko := OwnV.ext ko hx (by omega)
  clear hx
  go_wp2_with fail
  generalize (w16.alloc (.cells #[.slice ka (gopV a0 t1).length kc] 37)) = w17 at *
  refine (eqGroup_any (gopV a0 t1) (gopV a0 t1) _ _ _ ko.toR (ro.ext hA) gs).mono ?_
  rintro e w18 ⟨rfl, hx⟩
  rw [he0]
  have zz18 := Ext.size hx
  replace hX := Ext.trans hX hx
  replace hA := Ext.trans hA hx
  replace rb0 := Ext.cell hx rb0
  replace gb0 := Ext.cell hx gb0
  replace kb0 := Ext.cell hx kb0
  replace go := OwnV.ext go hx (by omega)
  replace ko := OwnV.ext ko hx (by omega)
  clear hx
  go_wp2_with fail
  refine (heldGroup_any (gopV a0 t1) _ _ _ go.toR gs (by omega) (by omega)).mono ?_
  rintro e w19 ⟨rfl, hx⟩
  have zz19 := Ext.size hx
  replace hX := Ext.trans hX hx
  replace hA := Ext.trans hA hx
  replace rb0 := Ext.cell hx rb0
  replace gb0 := Ext.cell hx gb0
  replace kb0 := Ext.cell hx kb0
  replace go := OwnV.ext go hx (by omega)
  replace ko := OwnV.ext ko hx (by omega)
  clear hx
  go_wp2
  go_ret
  exact ⟨rfl, hX⟩
end Go.Proofs.Ytjhfieegkgndfaa
