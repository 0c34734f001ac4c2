/-
  Normal subgroups: plain.
-/
import Derived.Test.YtjcpeenalbgacaaBase
import Derived.Test.YtjcpeenalbgacaaBase2
import Derived.Test.YtjcpeenalbgacaaPure1
import Derived.Test.YtjcpeenalbgacaaPureOrd
import Derived.Test.YtjcpeenalbgacaaPureInv
import Derived.Test.YtjcpeenalbgacaaPureTurn
import Derived.Test.YtjcpeenalbgacaaPureConj
import Derived.Test.YtjcpeenalbgacaaPureSet
namespace Go.Proofs.Ytjcpeenalbgacaa
set_option linter.unusedVariables false
set_option linter.unusedSimpArgs false
open Go.RowKit

theorem conjF_bd {t : List (List Int)} (hG : GroupOk t) {x y : Nat} (hx : x < t.length) (hy : y < t.length) : 0 ≤ conjF t x y ∧ conjF t x y < (t.length : Int) := by
  rw [← conjF_def]
  have h1 := backF_ok hG hx
  have h2 := hG.1.bd hx hy
  have := hG.1.bd (x := (ent t x y).toNat) (y := (backF t x).toNat) (by omega) (by omega)
  omega
def NormRow (t : List (List Int)) (m x k : Nat) : Prop := ∀ y, y < k → bitB m y = true → bitB m (conjF t x y).toNat = true
def NormTo (t : List (List Int)) (m n k : Nat) : Prop := ∀ x, x < k → NormRow t m x n
instance (t m x k) : Decidable (NormRow t m x k) := by unfold NormRow; infer_instance
instance (t m n k) : Decidable (NormTo t m n k) := by unfold NormTo; infer_instance
@[irreducible] def normB (t : List (List Int)) (m : Nat) : Bool := decide (NormTo t m t.length t.length)
theorem normB_iff {t m} : normB t m = true ↔ NormTo t m t.length t.length := by unfold normB; simp
theorem normB_yes {t m} (h : NormTo t m t.length t.length) : normB t m = true := normB_iff.2 h
theorem normB_no {t m} {x y : Nat} (hx : x < t.length) (hy : y < t.length) (hb : bitB m y = true) (hc : bitB m (conjF t x y).toNat = false) : normB t m = false := by
  rw [← Bool.not_eq_true, normB_iff]
  intro h; rw [h x hx y hy hb] at hc; cases hc
theorem NormRow.zero (t m x) : NormRow t m x 0 := all_zero
theorem NormRow.succ {t m x k} (h : NormRow t m x k) (hk : bitB m k = true → bitB m (conjF t x k).toNat = true) : NormRow t m x (k + 1) := all_succ h hk
theorem NormRow.mono {t m x k k'} (h : NormRow t m x k) (hk : k' ≤ k) : NormRow t m x k' := all_mono h hk
theorem NormTo.zero (t m n) : NormTo t m n 0 := all_zero
theorem NormTo.succ {t m n k} (h : NormTo t m n k) (hk : NormRow t m k n) : NormTo t m n (k + 1) := all_succ h hk
/-- over the list of the elements -/
def NormL (t : List (List Int)) (m x k : Nat) : Prop := ∀ i, i < k → bitB m (conjF t x (ix (elemsL m) i).toNat).toNat = true
theorem NormL.zero (t m x) : NormL t m x 0 := all_zero
theorem NormL.succ {t m x k} (h : NormL t m x k) (hk : bitB m (conjF t x (ix (elemsL m) k).toNat).toNat = true) : NormL t m x (k + 1) := all_succ h hk
theorem NormL.row {t : List (List Int)} {m x : Nat} (hm : m < 2 ^ t.length) (hn : t.length ≤ 12) (h : NormL t m x (elemsL m).length) : NormRow t m x t.length := fun y _ hb => by
  obtain ⟨i, hi, e⟩ := elemsL_has hm (by omega) hb
  have := h i hi
  rw [e] at this
  simpa using this
/-- the code of a group and a subgroup -/
@[irreducible] def subC (t : List (List Int)) (a : Int) : Int :=
  if groupB t = true then (if inR a 0 (((2 ^ t.length : Nat) : Int) - 1) = true then (if subB t a.toNat = true then 0 else 5) else 2) else 1
theorem subC_1 {t a} (h : groupB t = false) : subC t a = 1 := by unfold subC; rw [if_neg (by rw [h]; simp)]
theorem subC_2 {t a} (h : groupB t = true) (h2 : inR a 0 (((2 ^ t.length : Nat) : Int) - 1) = false) : subC t a = 2 := by unfold subC; rw [if_pos h, if_neg (by rw [h2]; simp)]
theorem subC_5 {t} {m : Nat} (h : groupB t = true) (h2 : inR m 0 (((2 ^ t.length : Nat) : Int) - 1) = true) (h3 : subB t m = false) : subC t m = 5 := by unfold subC; rw [if_pos h, if_pos h2, if_neg (by rw [Int.toNat_natCast, h3]; simp)]
theorem subC_0 {t} {m : Nat} (h : groupB t = true) (h2 : inR m 0 (((2 ^ t.length : Nat) : Int) - 1) = true) (h3 : subB t m = true) : subC t m = 0 := by unfold subC; rw [if_pos h, if_pos h2, if_pos (by rw [Int.toNat_natCast]; exact h3)]
theorem subC_zero {t a} (h : subC t a = 0) : groupB t = true ∧ ∃ m : Nat, a = (m : Int) ∧ m < 2 ^ t.length ∧ subB t m = true := by
  unfold subC at h
  split at h
  · rename_i h1
    split at h
    · rename_i h2
      split at h
      · rename_i h3
        have := inR_iff.1 h2
        obtain ⟨m, rfl⟩ := Int.eq_ofNat_of_zero_le this.1
        rw [Int.toNat_natCast] at h3
        exact ⟨h1, m, rfl, by omega, h3⟩
      · omega
    · omega
  · omega
/-- what IsNormalIn returns -/
@[irreducible] def normV (t : List (List Int)) (a : Int) : Bool := if subC t a = 0 then normB t a.toNat else false
theorem normV_bad {t a} (h : subC t a ≠ 0) : normV t a = false := by unfold normV; rw [if_neg h]
theorem normV_good {t} {m : Nat} (h : subC t m = 0) : normV t m = normB t m := by unfold normV; rw [if_pos h, Int.toNat_natCast]
theorem ediv2_bit {m : Nat} (h : m < 2 ^ 62) (hb : bitB m 0 = true) : ((m : Int) % 2 == 0) = false := by
  rw [bitB_zero_odd h] at hb
  have := eq_of_beq hb
  rw [beq_eq_false_iff_ne]; omega
theorem ediv2_nobit {m : Nat} (h : m < 2 ^ 62) (hb : bitB m 0 = false) : ((m : Int) % 2 == 0) = true := by
  rw [bitB_zero_odd h, beq_eq_false_iff_ne] at hb
  rw [beq_iff_eq]; omega
end Go.Proofs.Ytjcpeenalbgacaa
