/-
  Contract of l03Seek: the maps that go on with a beginning.
-/
import Derived.Test.YthlafeefjonkdaaDoorProg
import Derived.Deep.DeepCutAuto
import Derived.Deep.RegionWith
import Derived.Deep.RegionHeld3
import Derived.Deep.DrawnRows
import Derived.IntWalk
import Derived.Maps.AppendAt
import Derived.Test.YthlafeefjonkdaaDoorJx0
import Derived.Test.YthlafeefjonkdaaDoorJx1
import Derived.Test.YthlafeefjonkdaaDoorJx3
import Derived.Test.YthlafeefjonkdaaDoorJx4
import Derived.Test.YthlafeefjonkdaaDoorJx8
import Derived.Test.YthlafeefjonkdaaDoorJx5
import Derived.Test.YthlafeefjonkdaaDoorJx12
import Derived.Test.YthlafeefjonkdaaDoorJx13
import Derived.Test.YthlafeefjonkdaaDoorJx14
namespace Go.Proofs.YthlafeefjonkdaaDoor
set_option linter.unusedVariables false
set_option linter.unusedSimpArgs false
open Go.RowKit
attribute [local go_sem ↓] Go.wp_at_zero Go.wp_at_succ

/-- all that was there is as it was, but for one block perhaps -/
theorem Ext.grownBy {w w' : World} (h : Ext w w') (row : Option Nat) : w.grownBy w' row := ⟨h.os, h.tape, h.output, h.size, fun k hk _ => h.block k hk⟩
theorem IntsAt.grown {w w' : World} {b o : Nat} {l : List Int} {row : Option Nat} (h : IntsAt w b o l) (hg : w.grownBy w' row) (hne : row ≠ some b) : IntsAt w' b o l := fun i hi =>
  hg.cell (h i hi) (fun e => hne e.symm)
end Go.Proofs.YthlafeefjonkdaaDoor
