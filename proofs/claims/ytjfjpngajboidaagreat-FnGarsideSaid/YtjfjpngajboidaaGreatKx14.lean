/-
  Contract of l03Fits: does a beginning of a map fit.
-/
import Derived.Test.YtjfjpngajboidaaGreatKx9
namespace Go.Proofs.YtjfjpngajboidaaGreat
set_option linter.unusedVariables false
set_option linter.unusedSimpArgs false
open Go.RowKit
attribute [local go_sem ↓] Go.wp_at_zero Go.wp_at_succ

end Go.Proofs.YtjfjpngajboidaaGreat
