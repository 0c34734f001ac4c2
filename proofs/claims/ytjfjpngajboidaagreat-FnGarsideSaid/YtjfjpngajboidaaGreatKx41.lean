/-
  Contract of the program's groupOrder.
-/
import Derived.Test.YtjfjpngajboidaaGreatKx40
namespace Go.Proofs.YtjfjpngajboidaaGreat
set_option linter.unusedVariables false
set_option linter.unusedSimpArgs false
open Go.RowKit
attribute [local go_sem ↓] Go.wp_at_zero Go.wp_at_succ
open Go.Deep

theorem GrowT.map {e base : Nat} {w w' : World} {v : Value} {t : List (List Int)} {B : Nat} (h : GrowT e base w v t) (hg : w.grownBy w' (some B)) (hm : ∃ es c, w.heap[B]? = some (.map es c)) (hr : ∀ i, i < t.length → 0 < (row t i).length) (hne : v.ownBlock ≠ some B) : GrowT e base w' v t := by
  obtain ⟨es, c, hm⟩ := hm
  obtain ⟨xs, h1, h2⟩ := h.xt
  refine GrowT.of_xt (World.ownsRow.kept h1 hg (.inr hne)) ⟨h2.1, fun i hi => ?_⟩
  obtain ⟨x, g1, g0, b, d, rfl, g2⟩ := h2.2 i hi
  refine ⟨_, g1, g0, b, d, rfl, intsAt_grown g2 hg (fun _ e => ?_)⟩
  injection e with e
  have := g2 0 (hr i hi)
  rw [Nat.zero_add, e] at this
  simp [World.cell?, hm] at this
end Go.Proofs.YtjfjpngajboidaaGreat
