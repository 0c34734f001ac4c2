/-
  Contracts: all subgroups.
-/
import Derived.Test.YtncmfbebdbchbaaProg
import Derived.Test.YtncmfbebdbchbaaBase
import Derived.Test.YtncmfbebdbchbaaBase2
import Derived.Test.YtncmfbebdbchbaaRet
import Derived.Test.YtncmfbebdbchbaaGrow
import Derived.Test.YtncmfbebdbchbaaPure1
import Derived.Test.YtncmfbebdbchbaaPureOrd
import Derived.Test.YtncmfbebdbchbaaPureInv
import Derived.Test.YtncmfbebdbchbaaPureTurn
import Derived.Test.YtncmfbebdbchbaaPureSet
import Derived.Test.YtncmfbebdbchbaaW1
import Derived.Test.YtncmfbebdbchbaaW3
import Derived.Test.YtncmfbebdbchbaaW6
import Derived.Test.YtncmfbebdbchbaaW8
import Derived.Test.YtncmfbebdbchbaaW11
import Derived.Test.YtncmfbebdbchbaaW12
import Derived.Test.YtncmfbebdbchbaaW13
import Derived.Test.YtncmfbebdbchbaaW20
import Derived.Test.YtncmfbebdbchbaaW33
import Derived.Test.YtncmfbebdbchbaaK3
namespace Go.Proofs.Ytncmfbebdbchbaa
set_option linter.unusedVariables false
set_option linter.unusedSimpArgs false
open Go.RowKit

theorem wrapPow {n : Nat} (h : n ≤ 12) : wrap64 (2 ^ n) = ((2 ^ n : Nat) : Int) := by
  have := pow12 h
  have hc : ((2 : Int) ^ n) = ((2 ^ n : Nat) : Int) := by simp
  rw [hc]
  clear hc
  generalize 2 ^ n = P at this
  exact IntWalk.wrap64_in _ (by omega)
theorem even_pow {n : Nat} (h : 1 ≤ n) : 2 ^ n % 2 = 0 := by
  obtain ⟨m, rfl⟩ : ∃ m, n = m + 1 := ⟨n - 1, by omega⟩
  rw [Nat.pow_succ]; omega

end Go.Proofs.Ytncmfbebdbchbaa