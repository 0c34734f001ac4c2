/-
  Contracts of ClassesOf: reference and program.
-/
import Derived.Test.YtjbloenjphpngaaProg
import Derived.Deep.DeepCutAuto
import Derived.Deep.RegionWith
import Derived.Deep.RegionHeld3
import Derived.Deep.DrawnRows
import Derived.StillTailTactics
import Derived.Deep.RegionLaw
import Derived.Test.YtjbloenjphpngaaJx0
import Derived.Test.YtjbloenjphpngaaJx1
import Derived.Test.YtjbloenjphpngaaJx5
import Derived.Test.YtjbloenjphpngaaJx8
import Derived.Test.YtjbloenjphpngaaJx9
import Derived.Test.YtjbloenjphpngaaJx2
import Derived.Test.YtjbloenjphpngaaJx7
import Derived.Test.YtjbloenjphpngaaJx10
import Derived.Test.YtjbloenjphpngaaJx12
import Derived.Test.YtjbloenjphpngaaJx3
import Derived.Test.YtjbloenjphpngaaJx4
import Derived.Test.YtjbloenjphpngaaJx13
namespace Go.Proofs.Ytjbloenjphpngaa
set_option linter.unusedVariables false
set_option linter.unusedSimpArgs false
open Go.RowKit
attribute [local go_sem ↓] Go.wp_at_zero Go.wp_at_succ

theorem GrowI.one {e base : Nat} {w : World} {x : Int} (hb : base ≤ w.heap.size) : GrowI e base (w.alloc (.cells #[.int .i64 x] e)) (.slice (some ⟨w.heap.size, 0, none⟩) 1 1) [x] :=
  ⟨by simp, .inr ⟨w.heap.size, 1, #[.int .i64 x], rfl, hb, heap_alloc_new w _, Nat.le_refl _, by decide, by simp, by simp⟩⟩
/-- while row k is looked at: the first j entries are done -/
@[irreducible] def lstM (t : List (List Int)) (k j : Nat) : List Int := mkL t.length (fun y => if y < j then lstF t (k + 1) y else lstF t k y)
theorem length_lstM (t k j) : (lstM t k j).length = t.length := by unfold lstM; exact length_mkL _ _
theorem ix_lstM (t : List (List Int)) (k j y : Nat) (h : y < t.length) : ix (lstM t k j) y = if y < j then lstF t (k + 1) y else lstF t k y := by unfold lstM; exact ix_mkL _ _ _ h
theorem lstM_zero (t : List (List Int)) (k : Nat) : lstM t k 0 = lstL t k := ix_ext (by rw [length_lstM, length_lstL]) fun i hi => by
  rw [length_lstM] at hi
  rw [ix_lstM _ _ _ _ hi, ix_lstL _ _ _ hi]; simp
theorem lstM_all (t : List (List Int)) (k : Nat) : lstM t k t.length = lstL t (k + 1) := ix_ext (by rw [length_lstM, length_lstL]) fun i hi => by
  rw [length_lstM] at hi
  rw [ix_lstM _ _ _ _ hi, ix_lstL _ _ _ hi, if_pos hi]
theorem idL_lst (t : List (List Int)) : idL t.length = lstL t 0 := ix_ext (by rw [length_idL, length_lstL]) fun i hi => by
  rw [length_idL] at hi
  rw [ix_idL _ _ hi, ix_lstL _ _ _ hi, lstF_zero]

@[irreducible] def orbL (t : List (List Int)) (x : Nat) : List Int := mkL t.length (orbF t x)
theorem length_orbL (t x) : (orbL t x).length = t.length := by unfold orbL; exact length_mkL _ _
theorem ix_orbL (t : List (List Int)) (x y : Nat) (h : y < t.length) : ix (orbL t x) y = orbF t x y := by unfold orbL; exact ix_mkL _ _ _ h
@[irreducible] def orbML (t : List (List Int)) (x : Nat) (O : List Int) (m : Nat) : List Int := mkL t.length (orbM t x O m)
theorem length_orbML (t x O m) : (orbML t x O m).length = t.length := by unfold orbML; exact length_mkL _ _
theorem ix_orbML (t : List (List Int)) (x : Nat) (O : List Int) (m y : Nat) (h : y < t.length) : ix (orbML t x O m) y = orbM t x O m y := by unfold orbML; exact ix_mkL _ _ _ h
theorem orbL_zero (t : List (List Int)) : List.replicate t.length (-1 : Int) = orbL t 0 := ix_ext (by rw [length_orbL]; simp) fun i hi => by
  have hi' : i < t.length := by simpa using hi
  rw [ix_orbL _ _ _ hi', orbF_zero, ix_eq]; simp [List.getD, hi']
theorem orbL_old {t : List (List Int)} {x : Nat} (hx : x < t.length) (h : hasB (seenTo (minL t) x) (minC t x) = true) : orbL t (x + 1) = orbL t x := ix_ext (by rw [length_orbL, length_orbL]) fun i hi => by
  rw [length_orbL] at hi
  rw [ix_orbL _ _ _ hi, ix_orbL _ _ _ hi, orbF_old hx h]
theorem orbML_zero (t : List (List Int)) (x : Nat) (O : List Int) : orbML t x O 0 = orbL t x := ix_ext (by rw [length_orbL, length_orbML]) fun i hi => by
  rw [length_orbML] at hi
  rw [ix_orbL _ _ _ hi, ix_orbML _ _ _ _ _ hi, orbM_zero]
theorem orbML_done {t : List (List Int)} {x : Nat} {O : List Int} (hx : x < t.length) (hO : IsOrb t x O) (hn : hasB (seenTo (minL t) x) (minC t x) = false) : orbML t x O O.length = orbL t (x + 1) := ix_ext (by rw [length_orbL, length_orbML]) fun i hi => by
  rw [length_orbML] at hi
  rw [ix_orbL _ _ _ hi, ix_orbML _ _ _ _ _ hi, orbM_done hx hi hO hn]
theorem orbL_done (t : List (List Int)) : orbL t t.length = clsL t := ix_ext (by rw [length_orbL, length_clsL]) fun i hi => by
  rw [length_orbL] at hi
  rw [ix_orbL _ _ _ hi, orbF_done hi]

end Go.Proofs.Ytjbloenjphpngaa
