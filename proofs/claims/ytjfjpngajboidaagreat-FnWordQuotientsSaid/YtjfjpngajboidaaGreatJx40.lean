/-
  Contract of the program's iterator over permutations.
-/
import Derived.Test.YtjfjpngajboidaaGreatJx38
import Derived.Test.YtjfjpngajboidaaGreatJx39
namespace Go.Proofs.YtjfjpngajboidaaGreat
set_option linter.unusedVariables false
set_option linter.unusedSimpArgs false
open Go.RowKit Go.Shelf
open Go.Deep
attribute [local go_sem] Oper.semAt_some

end Go.Proofs.YtjfjpngajboidaaGreat
