/-
  Contract of the program's iterator over permutations.
-/
import Derived.Test.YtjfjpngajboidaaGreatKx38
import Derived.Test.YtjfjpngajboidaaGreatKx39
namespace Go.Proofs.YtjfjpngajboidaaGreat
set_option linter.unusedVariables false
set_option linter.unusedSimpArgs false
open Go.RowKit Go.Shelf
open Go.Deep
attribute [local go_sem] Oper.semAt_some

end Go.Proofs.YtjfjpngajboidaaGreat
