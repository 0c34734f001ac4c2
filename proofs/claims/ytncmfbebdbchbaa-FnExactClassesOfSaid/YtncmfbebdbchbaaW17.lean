/-
  Contracts of OrderIn: reference and program.
-/
import Derived.Test.YtncmfbebdbchbaaProg
import Derived.Test.YtncmfbebdbchbaaBase
import Derived.Test.YtncmfbebdbchbaaBase2
import Derived.Test.YtncmfbebdbchbaaRet
import Derived.Test.YtncmfbebdbchbaaPure1
import Derived.Test.YtncmfbebdbchbaaPureOrd
import Derived.Test.YtncmfbebdbchbaaW1
import Derived.Test.YtncmfbebdbchbaaW3
import Derived.Test.YtncmfbebdbchbaaW4
import Derived.Test.YtncmfbebdbchbaaW6
import Derived.Test.YtncmfbebdbchbaaW11
namespace Go.Proofs.Ytncmfbebdbchbaa
set_option linter.unusedVariables false
set_option linter.unusedSimpArgs false
open Go.RowKit

theorem areElements_any (n : Nat) (l : List Int) (v : Value) (w : World) (hv : Ints w v l) (hn : n ≤ 1048576) :
    Calls Try.prog 69 #[.int .i64 n, v] w fun e w' => e = .returned (.bool (allInB l 0 (n - 1))) ∧ w = w' := by
  go_enter Try.func69, Try.ntmps69
  go_wp2_with (go_at_call 110; refine (allWithin_any l _ _ _ _ hv).mono ?_; rintro e w' ⟨rfl, rfl⟩)
  go_ret
  exact ⟨rfl, rfl⟩

theorem allInB_one (a lo hi : Int) : allInB [a] lo hi = inR a lo hi := by
  rw [Bool.eq_iff_iff, allInB_iff, inR_iff]
  have h0 : ix [a] 0 = a := by rw [ix_eq]; rfl
  constructor
  · intro h; have := h 0 (by simp); rwa [h0] at this
  · intro h i hi
    have : i = 0 := by simp at hi; omega
    subst this; rw [h0]; exact h

end Go.Proofs.Ytncmfbebdbchbaa