/-
  Products of tables: plain.
-/
import Derived.IntWalk
import Derived.Test.YtjbloenjphpngaaJx0
import Derived.Test.YtjbloenjphpngaaJx1
import Derived.Test.YtjbloenjphpngaaJx2
import Derived.Test.YtjbloenjphpngaaJx5
import Derived.Test.YtjbloenjphpngaaJx3
import Derived.Test.YtjbloenjphpngaaJx4
namespace Go.Proofs.Ytjbloenjphpngaa
set_option linter.unusedVariables false
set_option linter.unusedSimpArgs false
open Go.RowKit

/-- entry of a product -/
@[irreducible] def prodF (a b : List (List Int)) (x y : Nat) : Int := ent a (x / b.length) (y / b.length) * (b.length : Int) + ent b (x % b.length) (y % b.length)
theorem prodF_def (a b : List (List Int)) (x y : Nat) : ent a (x / b.length) (y / b.length) * (b.length : Int) + ent b (x % b.length) (y % b.length) = prodF a b x y := by unfold prodF; rfl
theorem divs {k n m : Nat} (h : k < n * m) : ∃ q r : Nat, (k : Int) / (m : Int) = (q : Int) ∧ (k : Int) % (m : Int) = (r : Int) ∧ q < n ∧ r < m ∧ k / m = q ∧ k % m = r := by
  have hm : 0 < m := by
    rcases Nat.eq_zero_or_pos m with h0 | h0
    · subst h0; simp at h
    · exact h0
  exact ⟨k / m, k % m, by simp, by simp, (Nat.div_lt_iff_lt_mul hm).2 h, Nat.mod_lt _ hm, rfl, rfl⟩
theorem tdivs {k m : Nat} {q r : Nat} (h1 : (k : Int) / (m : Int) = (q : Int)) (h2 : (k : Int) % (m : Int) = (r : Int)) : Int.tdiv (k : Int) (m : Int) = (q : Int) ∧ Int.tmod (k : Int) (m : Int) = (r : Int) := by
  rw [Int.tdiv_eq_ediv_of_nonneg (by omega), Int.tmod_eq_emod_of_nonneg (by omega)]
  exact ⟨h1, h2⟩
theorem mul_bd {a m : Int} (h0 : 0 ≤ a) (h1 : a < 12) (h2 : 0 ≤ m) (h3 : m ≤ 12) : 0 ≤ a * m ∧ a * m ≤ 144 := by
  constructor
  · exact Int.mul_nonneg h0 h2
  · calc a * m ≤ 12 * m := Int.mul_le_mul_of_nonneg_right (by omega) h2
      _ ≤ 12 * 12 := Int.mul_le_mul_of_nonneg_left h3 (by decide)
theorem cast_mul' (a b N : Nat) (h : N = a * b) : (a : Int) * (b : Int) = (N : Int) := by subst h; simp
@[irreducible] def prodT (a b : List (List Int)) : List (List Int) := mkT (a.length * b.length) (prodF a b)
theorem prodT_def (a b : List (List Int)) : prodT a b = mkT (a.length * b.length) (prodF a b) := by unfold prodT; rfl
theorem length_prodT (a b : List (List Int)) : (prodT a b).length = a.length * b.length := by rw [prodT_def, length_mkT]
theorem small_prodT {a b : List (List Int)} (h : a.length * b.length ≤ 12) : Small (prodT a b) := by rw [prodT_def]; exact small_mkT (by omega) _
end Go.Proofs.Ytjbloenjphpngaa
