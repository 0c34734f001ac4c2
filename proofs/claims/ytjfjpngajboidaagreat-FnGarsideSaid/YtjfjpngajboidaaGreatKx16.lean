/-
  Contract of l03Seek: the maps that go on with a beginning.
-/
import Derived.Test.YtjfjpngajboidaaGreatKx14
import Derived.Test.YtjfjpngajboidaaGreatKx15
namespace Go.Proofs.YtjfjpngajboidaaGreat
set_option linter.unusedVariables false
set_option linter.unusedSimpArgs false
open Go.RowKit
attribute [local go_sem ↓] Go.wp_at_zero Go.wp_at_succ

theorem Ext.grownBy {w w' : World} (h : Ext w w') (row : Option Nat) : w.grownBy w' row := ⟨h.os, h.tape, h.output, h.size, fun k hk _ => h.block k hk⟩
theorem IntsAt.grown {w w' : World} {b o : Nat} {l : List Int} {row : Option Nat} (h : IntsAt w b o l) (hg : w.grownBy w' row) (hne : row ≠ some b) : IntsAt w' b o l := fun i hi =>
  hg.cell (h i hi) (fun e => hne e.symm)
theorem ext_grownBy {a w w' : World} {row : Option Nat} (h : Ext a w) (hg : w.grownBy w' row) (hr : ∀ k, row = some k → a.heap.size ≤ k) : Ext a w' := Below.grown h hg h.size hr


def OwnAt (vo vo' : Value) (w : World) : Prop := vo'.ownBlock = vo.ownBlock ∨ ∃ g, vo'.ownBlock = some g ∧ w.heap.size ≤ g
theorem OwnAt.ne {vo vo' : Value} {w : World} {b : Nat} (h : OwnAt vo vo' w) (hne : vo.ownBlock ≠ some b) (hb : b < w.heap.size) : vo'.ownBlock ≠ some b := by
  rcases h with e | ⟨g, e, hg⟩
  · rw [e]; exact hne
  · rw [e]; intro h; injection h with h; omega
end Go.Proofs.YtjfjpngajboidaaGreat
