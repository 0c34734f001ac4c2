/-
  Contracts of the laws' own helpers: equality, size, copies, marks.
-/
import Derived.Test.YtjbloenjphpngaaProg
import Derived.Deep.OwnRows
import Derived.Test.YtjbloenjphpngaaJx0
import Derived.Test.YtjbloenjphpngaaJx1
import Derived.Test.YtjbloenjphpngaaJx2
namespace Go.Proofs.Ytjbloenjphpngaa
set_option linter.unusedVariables false
set_option linter.unusedSimpArgs false
open Go.RowKit

@[irreducible] def eqIB (a b : List Int) : Bool := decide (a = b)
@[irreducible] def eqTB (a b : List (List Int)) : Bool := decide (a = b)
theorem eqIB_yes {a b : List Int} (h : a = b) : eqIB a b = true := by unfold eqIB; simpa using h
theorem eqIB_no {a b : List Int} (h : a ≠ b) : eqIB a b = false := by unfold eqIB; simpa using h
theorem eqIB_iff {a b : List Int} : eqIB a b = true ↔ a = b := by unfold eqIB; simp
theorem eqTB_yes {a b : List (List Int)} (h : a = b) : eqTB a b = true := by unfold eqTB; simpa using h
theorem eqTB_no {a b : List (List Int)} (h : a ≠ b) : eqTB a b = false := by unfold eqTB; simpa using h
theorem eqTB_iff {a b : List (List Int)} : eqTB a b = true ↔ a = b := by unfold eqTB; simp
def SameTo (a b : List Int) (k : Nat) : Prop := ∀ i, i < k → ix a i = ix b i
def SameRows (a b : List (List Int)) (k : Nat) : Prop := ∀ i, i < k → row a i = row b i

/-- all rows are small enough to be counted -/
def SzTo (t : List (List Int)) (m : Nat) : Prop := ∀ i, i < m → (row t i).length ≤ 1048576
/-- what a size says: below 0, or all is small -/
def SzPost (t : List (List Int)) (k : Int) (w : World) (e : Ending) (w' : World) : Prop :=
  ∃ r : Int, e = .returned (.int .i64 r) ∧ r ≤ k ∧ -1 ≤ r ∧ (0 ≤ r → Small t) ∧ w = w'
theorem row_out {t : List (List Int)} {i : Nat} (h : t.length ≤ i) : row t i = [] := by rw [row_eq]; simp [List.getD, h]
theorem SzTo.small {t : List (List Int)} (h0 : t.length ≤ 1048576) (h : SzTo t t.length) : Small t := ⟨h0, fun i => by
  by_cases hi : i < t.length
  · exact h i hi
  · rw [row_out (by omega)]; simp⟩

end Go.Proofs.Ytjbloenjphpngaa
