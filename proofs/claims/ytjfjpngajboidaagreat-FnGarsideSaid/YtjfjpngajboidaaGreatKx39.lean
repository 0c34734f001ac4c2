/-
  Contracts of slices.Reverse, nextPermutation.
-/
import Derived.Test.YtjfjpngajboidaaGreatKx32
namespace Go.Proofs.YtjfjpngajboidaaGreat
set_option linter.unusedVariables false
set_option linter.unusedSimpArgs false
open Go.RowKit
attribute [local go_sem ↓] Go.wp_at_zero Go.wp_at_succ
open Go.Deep

end Go.Proofs.YtjfjpngajboidaaGreat
