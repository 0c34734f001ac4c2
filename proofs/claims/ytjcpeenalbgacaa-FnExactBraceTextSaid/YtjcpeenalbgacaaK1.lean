/-
  Contracts of the laws' own helpers, in the form in which the laws use them.
-/
import Derived.Test.YtjcpeenalbgacaaProg
import Derived.Test.YtjcpeenalbgacaaBase
import Derived.Test.YtjcpeenalbgacaaBase2
import Derived.Test.YtjcpeenalbgacaaRet
import Derived.Test.YtjcpeenalbgacaaPure1
import Derived.Test.YtjcpeenalbgacaaW7
import Derived.Test.YtjcpeenalbgacaaW8
import Derived.Test.YtjcpeenalbgacaaW9
import Derived.Test.YtjcpeenalbgacaaW10
namespace Go.Proofs.Ytjcpeenalbgacaa
set_option linter.unusedVariables false
set_option linter.unusedSimpArgs false
open Go.RowKit

theorem OwnV.small {lo hi : Nat} {w : World} {v : Value} {t : List (List Int)} (h : OwnV lo hi w v t) : Small t := h.1
theorem OwnIV.small {lo hi : Nat} {w : World} {v : Value} {l : List Int} (h : OwnIV lo hi w v l) : l.length ≤ 1048576 := h.1

theorem toGroup_new (t : List (List Int)) (v : Value) (w : World) (hv : RowsR w v t) (hs : Small t) :
    Calls Try.prog 42 #[.agg #[v]] w fun e w' => ∃ u, e = .returned (.agg #[u]) ∧ OwnV w.heap.size w'.heap.size w' u t ∧ Rows w' u t ∧ Ext w w' :=
  (toGroup_any t v w hv hs).mono fun _ _ ⟨b, c, h1, h2, h3⟩ => ⟨_, h1, h2.v hs c, (h2.rowsAt hs).rows hs.1 c, h3⟩
end Go.Proofs.Ytjcpeenalbgacaa
