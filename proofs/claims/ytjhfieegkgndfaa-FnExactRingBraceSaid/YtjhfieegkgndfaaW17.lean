/-
  Contracts of OrderIn: reference and program.
-/
import Derived.Test.YtjhfieegkgndfaaProg
import Derived.Test.YtjhfieegkgndfaaBase
import Derived.Test.YtjhfieegkgndfaaBase2
import Derived.Test.YtjhfieegkgndfaaRet
import Derived.Test.YtjhfieegkgndfaaPure1
import Derived.Test.YtjhfieegkgndfaaPureOrd
import Derived.Test.YtjhfieegkgndfaaW1
import Derived.Test.YtjhfieegkgndfaaW3
import Derived.Test.YtjhfieegkgndfaaW4
import Derived.Test.YtjhfieegkgndfaaW6
import Derived.Test.YtjhfieegkgndfaaW11
namespace Go.Proofs.Ytjhfieegkgndfaa
set_option linter.unusedVariables false
set_option linter.unusedSimpArgs false
open Go.RowKit

theorem allInB_one (a lo hi : Int) : allInB [a] lo hi = inR a lo hi := by
  rw [Bool.eq_iff_iff, allInB_iff, inR_iff]
  have h0 : ix [a] 0 = a := by rw [ix_eq]; rfl
  constructor
  · intro h; have := h 0 (by simp); rwa [h0] at this
  · intro h i hi
    have : i = 0 := by simp at hi; omega
    subst this; rw [h0]; exact h

end Go.Proofs.Ytjhfieegkgndfaa