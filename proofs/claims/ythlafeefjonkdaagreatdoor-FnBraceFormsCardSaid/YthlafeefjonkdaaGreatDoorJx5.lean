/-
  Sets of elements as numbers; subgroups: plain.
-/
import Derived.Laws.BitsLemmas
import Derived.Test.YthlafeefjonkdaaGreatDoorJx4
namespace Go.Proofs.YthlafeefjonkdaaGreatDoor
set_option linter.unusedVariables false
set_option linter.unusedSimpArgs false
open Go.RowKit

@[irreducible] def bitB (m x : Nat) : Bool := bits .and .i64 ((m : Int) / 2 ^ x) 1 == 1
/-! ### closed sets, subgroups -/
def ClosedRow (t : List (List Int)) (m x k : Nat) : Prop := ∀ y, y < k → bitB m x = true → bitB m y = true → bitB m (ent t x y).toNat = true
def ClosedTo (t : List (List Int)) (m n k : Nat) : Prop := ∀ x, x < k → ClosedRow t m x n
instance (t m x k) : Decidable (ClosedRow t m x k) := by unfold ClosedRow; infer_instance
instance (t m n k) : Decidable (ClosedTo t m n k) := by unfold ClosedTo; infer_instance
@[irreducible] def closedB (t : List (List Int)) (m : Nat) : Bool := decide (ClosedTo t m t.length t.length)
@[irreducible] def subB (t : List (List Int)) (m : Nat) : Bool := bitB m 0 && closedB t m
end Go.Proofs.YthlafeefjonkdaaGreatDoor


namespace Go.Proofs.YthlafeefjonkdaaGreatDoor
set_option linter.unusedVariables false
set_option linter.unusedSimpArgs false
open Go.RowKit

def NormRow (t : List (List Int)) (m x k : Nat) : Prop := ∀ y, y < k → bitB m y = true → bitB m (conjF t x y).toNat = true
def NormTo (t : List (List Int)) (m n k : Nat) : Prop := ∀ x, x < k → NormRow t m x n
instance (t m x k) : Decidable (NormRow t m x k) := by unfold NormRow; infer_instance
instance (t m n k) : Decidable (NormTo t m n k) := by unfold NormTo; infer_instance
end Go.Proofs.YthlafeefjonkdaaGreatDoor


namespace Go.Proofs.YthlafeefjonkdaaGreatDoor
set_option linter.unusedVariables false
set_option linter.unusedSimpArgs false

section
variable {t : List (List Int)} (h : GroupOk t)
include h
end
def lstTo (t : List (List Int)) (y : Nat) : Nat → Int
  | 0 => (y : Int)
  | k + 1 => min (lstTo t y k) (conjF t k y)
@[irreducible] def lstF (t : List (List Int)) (k y : Nat) : Int := lstTo t y k
@[irreducible] def minC (t : List (List Int)) (y : Nat) : Int := lstF t t.length y
/-! ### the reference's way -/
structure OrbOk (t : List (List Int)) (x : Nat) (O : List Int) : Prop where
  pos : 0 < O.length
  first : ix O 0 = (x : Int)
  mem : ∀ i, i < O.length → ∃ y : Nat, ix O i = (y : Int) ∧ y < t.length ∧ minC t y = minC t x
  nodup : O.Nodup
end Go.Proofs.YthlafeefjonkdaaGreatDoor
