/-
  Texts of lists and of tables: plain.
-/
import Derived.Lib.Join
import Derived.Test.YthlafeefjonkdaaDoorJx0
import Derived.Test.YthlafeefjonkdaaDoorJx1
import Derived.Test.YthlafeefjonkdaaDoorJx3
import Derived.Test.YthlafeefjonkdaaDoorJx4
import Derived.Test.YthlafeefjonkdaaDoorJx11
namespace Go.Proofs.YthlafeefjonkdaaDoor
set_option linter.unusedVariables false
set_option linter.unusedSimpArgs false
open Go.RowKit

theorem bytes_size (a : List UInt8) : (ByteArray.mk a.toArray).size = a.length := by show a.toArray.size = _; simp
end Go.Proofs.YthlafeefjonkdaaDoor
