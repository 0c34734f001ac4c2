/-
  How many bits a number has: plain.
-/
import Derived.Laws.BitsLemmas
import Derived.Laws.Bits64
import Derived.Test.YtjbloenjphpngaaJx0
import Derived.Test.YtjbloenjphpngaaJx2
import Derived.Test.YtjbloenjphpngaaJx7
namespace Go.Proofs.Ytjbloenjphpngaa
set_option linter.unusedVariables false
set_option linter.unusedSimpArgs false
open Go.RowKit

/-- the number of bits -/
def popN (m : Nat) : Nat := if m = 0 then 0 else m % 2 + popN (m / 2)
termination_by m
decreasing_by omega
theorem popN_zero : popN 0 = 0 := by rw [popN]; simp
theorem popN_pos {m : Nat} (h : m ≠ 0) : popN m = m % 2 + popN (m / 2) := by rw [popN, if_neg h]
theorem popN_le (m : Nat) : popN m ≤ m := by
  by_cases h : m = 0
  · subst h; rw [popN_zero]; exact Nat.le_refl _
  · have := popN_le (m / 2)
    rw [popN_pos h]; omega
termination_by m
decreasing_by omega
theorem popN_test : ∀ (k m : Nat), m < 2 ^ k → popN m = ((List.range k).filter fun x => m.testBit x).length
  | 0, m, h => by
    have : m = 0 := by simpa using h
    subst this
    rw [popN_zero]; rfl
  | k + 1, m, h => by
    by_cases h0 : m = 0
    · subst h0
      rw [popN_zero, List.filter_eq_nil_iff.2 (fun x _ => by simp)]; rfl
    · have ih := popN_test k (m / 2) (by rw [Nat.pow_succ] at h; omega)
      rw [popN_pos h0, ih, List.range_succ_eq_map, List.filter_cons, List.filter_map]
      have e : ((fun x => m.testBit x) ∘ Nat.succ) = fun x => (m / 2).testBit x := by
        funext x
        simp [Nat.testBit_succ]
      rw [e, Nat.testBit_zero]
      by_cases hb : m % 2 = 1
      · rw [if_pos (by simpa using hb)]
        simp; omega
      · rw [if_neg (by simpa using hb), List.length_map]
        omega
theorem popN_bit {m k : Nat} (h : m < 2 ^ k) (hk : k ≤ 62) : popN m = ((List.range k).filter fun x => bitB m x).length := by
  rw [popN_test k m h]
  congr 1
  refine List.filter_congr fun x _ => ?_
  rw [bitB_test (Nat.lt_of_lt_of_le h (Nat.pow_le_pow_right (by decide) hk))]
end Go.Proofs.Ytjbloenjphpngaa
