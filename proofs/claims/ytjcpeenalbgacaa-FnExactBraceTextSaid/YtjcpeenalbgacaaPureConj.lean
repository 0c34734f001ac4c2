/-
  Conjugation in a group; reading tables: plain.
-/
import Derived.Test.YtjcpeenalbgacaaBase
import Derived.Test.YtjcpeenalbgacaaBase2
import Derived.Test.YtjcpeenalbgacaaPure1
import Derived.Test.YtjcpeenalbgacaaPureOrd
import Derived.Test.YtjcpeenalbgacaaPureInv
import Derived.Test.YtjcpeenalbgacaaPureTurn
namespace Go.Proofs.Ytjcpeenalbgacaa
set_option linter.unusedVariables false
set_option linter.unusedSimpArgs false

/-- x y (inverse of x) -/
@[irreducible] def conjF (t : List (List Int)) (x y : Nat) : Int := ent t (ent t x y).toNat (backF t x).toNat
theorem conjF_def (t : List (List Int)) (x y : Nat) : ent t (ent t x y).toNat (backF t x).toNat = conjF t x y := by unfold conjF; rfl

/-- a row of a table, as it lies, and its entries -/
theorem RowsAt.read {w : World} {b o n : Nat} {t : List (List Int)} (h : RowsAt w b o t) (hT : TableOk t) (hn : t.length = n) {x : Nat} (hx : x < n) :
    ∃ d s m, w.cell? ⟨b, o + x, none⟩ = some (.slice (some ⟨d, s, none⟩) n m) ∧ ∀ y, y < n → w.cell? ⟨d, s + y, none⟩ = some (.int .i64 (ent t x y)) ∧ 0 ≤ ent t x y ∧ ent t x y < (n : Int) := by
  subst hn
  obtain ⟨d, s, m, r, l, -⟩ := h.get hx
  rw [hT.len hx] at r
  exact ⟨d, s, m, r, fun y hy => ⟨l.ent (hT.len hx) hy, (hT.bd hx hy).1, by have := (hT.bd hx hy).2; omega⟩⟩
end Go.Proofs.Ytjcpeenalbgacaa
