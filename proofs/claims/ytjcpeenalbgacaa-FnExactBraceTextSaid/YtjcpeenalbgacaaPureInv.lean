/-
  Inverses in a group: plain.
-/
import Derived.Test.YtjcpeenalbgacaaBase
import Derived.Test.YtjcpeenalbgacaaBase2
import Derived.Test.YtjcpeenalbgacaaPure1
import Derived.Test.YtjcpeenalbgacaaPureOrd
namespace Go.Proofs.Ytjcpeenalbgacaa
set_option linter.unusedVariables false
set_option linter.unusedSimpArgs false

/-- the list of the values of f -/
@[irreducible] def mkL (n : Nat) (f : Nat → Int) : List Int := (List.range n).map f
theorem length_mkL (n : Nat) (f : Nat → Int) : (mkL n f).length = n := by unfold mkL; simp
theorem ix_mkL (n : Nat) (f : Nat → Int) (i : Nat) (h : i < n) : ix (mkL n f) i = f i := by rw [ix_eq]; unfold mkL; simp [List.getD, h]

/-- the inverse of x -/
@[irreducible] def backF (t : List (List Int)) (x : Nat) : Int := indexOf (row t x) 0
theorem backF_def (t : List (List Int)) (x : Nat) : indexOf (row t x) 0 = backF t x := by unfold backF; rfl
/-- all inverses -/
@[irreducible] def backs (t : List (List Int)) : List Int := mkL t.length (backF t)
theorem length_backs (t : List (List Int)) : (backs t).length = t.length := by unfold backs; exact length_mkL _ _
theorem ix_backs (t : List (List Int)) (x : Nat) (h : x < t.length) : ix (backs t) x = backF t x := by unfold backs; exact ix_mkL _ _ _ h
/-- in a group the inverse is an element, and is inverse -/
theorem backF_ok {t : List (List Int)} (hG : GroupOk t) {x : Nat} (hx : x < t.length) : 0 ≤ backF t x ∧ backF t x ≤ (t.length : Int) - 1 ∧ ent t x (backF t x).toNat = 0 := by
  have hl := hG.1.len hx
  have h0 := (permOk_iff_has (row t x)).1 (hG.2.1 x hx) 0 (by omega)
  unfold backF
  rcases indexOf_spec (row t x) 0 with ⟨h1, _⟩ | ⟨i, hi, h1, h2, _⟩
  · simp at h0; omega
  · rw [h1]
    exact ⟨by omega, by omega, by rw [← ent_def]; simpa using h2⟩

/-- what InverseIn returns -/
@[irreducible] def invV (t : List (List Int)) (a : Int) : Int := if elemC t a = 0 then backF t a.toNat else 0
theorem invV_good {t : List (List Int)} {x : Nat} (h : elemC t x = 0) : invV t x = backF t x := by unfold invV; rw [if_pos h]; simp
theorem invV_bad {t : List (List Int)} {a : Int} (h : elemC t a ≠ 0) : invV t a = 0 := by unfold invV; rw [if_neg h]
end Go.Proofs.Ytjcpeenalbgacaa
