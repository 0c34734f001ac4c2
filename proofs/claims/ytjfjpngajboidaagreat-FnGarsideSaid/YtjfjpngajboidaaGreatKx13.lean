/-
  Contract of l03Mark: the mark of an element.
-/
import Derived.Test.YtjfjpngajboidaaGreatKx12
import Derived.Test.YtjfjpngajboidaaGreatKx11
namespace Go.Proofs.YtjfjpngajboidaaGreat
set_option linter.unusedVariables false
set_option linter.unusedSimpArgs false
open Go.RowKit
attribute [local go_sem ↓] Go.wp_at_zero Go.wp_at_succ

@[irreducible] def own1 (u y : Int) : Int := if u = y then 1 else 0
@[irreducible] def own2 (u v y : Int) : Int := own1 u y + (if v = y then 2 else 0)
theorem IntsAt.swap {w : World} {b : Nat} {l : List Int} (h : IntsAt w b 0 l) {j : Nat} (hj : j + 1 < l.length) :
    IntsAt ((w.setCell ⟨b, j + 1, none⟩ (.int .i64 (ix l j))).setCell ⟨b, j, none⟩ (.int .i64 (ix l (j + 1)))) b 0 (swapL l j) := by
  have h1 := h.set0 (l' := l.set (j + 1) (ix l j)) (j + 1) (ix l j) hj (by simp) (fun i hi hl => by rw [ix_set _ _ _ _ hl, if_neg (by omega)]) (by rw [ix_set _ _ _ _ hj, if_pos rfl])
  refine h1.set0 (l' := swapL l j) j (ix l (j + 1)) (by simp; omega) (by rw [length_swapL]; simp) (fun i hi hl => ?_) ?_
  · have hl' : i < l.length := by simpa using hl
    rw [ix_swapL _ _ _ hj hl', if_neg hi, ix_set _ _ _ _ hl']
    by_cases e : i = j + 1
    · rw [if_pos e, if_pos e.symm]
    · rw [if_neg e, if_neg (fun h => e h.symm)]
  · rw [ix_swapL _ _ _ hj (by omega), if_pos rfl]

end Go.Proofs.YtjfjpngajboidaaGreat
