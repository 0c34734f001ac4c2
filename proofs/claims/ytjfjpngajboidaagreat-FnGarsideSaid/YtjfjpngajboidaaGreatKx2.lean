/-
  Sets of elements as numbers; subgroups: plain.
-/
import Derived.Laws.BitsLemmas
import Derived.Test.YtjfjpngajboidaaGreatKx1
namespace Go.Proofs.YtjfjpngajboidaaGreat
set_option linter.unusedVariables false
set_option linter.unusedSimpArgs false
open Go.RowKit

@[irreducible] def bitB (m x : Nat) : Bool := bits .and .i64 ((m : Int) / 2 ^ x) 1 == 1
theorem bitB_def (m x : Nat) : (bits .and .i64 ((m : Int) / 2 ^ x) 1 == 1) = bitB m x := by unfold bitB; rfl
theorem bits_and_one (a : Nat) (h : a < 2 ^ 62) : bits .and .i64 (a : Int) 1 = ((a % 2 : Nat) : Int) := by
  have := (bits_nat .i64 62 (by decide) (fun n h0 h1 => by rw [IntKind.wrap_i64]; omega) a 1 h (by decide)).1
  rw [Nat.and_one_is_mod] at this
  exact this
theorem div_pow_lt {m x : Nat} (h : m < 2 ^ 62) : m / 2 ^ x < 2 ^ 62 := Nat.lt_of_le_of_lt (Nat.div_le_self _ _) h
theorem cast_div_pow (m x : Nat) : (m : Int) / 2 ^ x = ((m / 2 ^ x : Nat) : Int) := by simp
theorem bitB_test {m : Nat} (h : m < 2 ^ 62) (x : Nat) : bitB m x = m.testBit x := by
  rw [← bitB_def, cast_div_pow, bits_and_one _ (div_pow_lt h), Nat.testBit_eq_decide_div_mod_eq, Bool.eq_iff_iff, beq_iff_eq, decide_eq_true_iff]
  omega
theorem bitB_lt {m x k : Nat} (hm : m < 2 ^ k) (hk : k ≤ 62) (h : bitB m x = true) : x < k := by
  have hm' : m < 2 ^ 62 := Nat.lt_of_lt_of_le hm (Nat.pow_le_pow_right (by decide) hk)
  rw [bitB_test hm'] at h
  apply Classical.byContradiction
  intro hx
  rw [Nat.testBit_lt_two_pow (Nat.lt_of_lt_of_le hm (Nat.pow_le_pow_right (by decide) (by omega)))] at h
  cases h
theorem pow12 {n : Nat} (h : n ≤ 12) : 2 ^ n ≤ 4096 := by
  have : 2 ^ n ≤ 2 ^ 12 := Nat.pow_le_pow_right (by decide) h
  simpa using this
theorem lt62 {m n : Nat} (h : n ≤ 12) (hm : m < 2 ^ n) : m < 2 ^ 62 := by
  have := pow12 h
  have : (4096 : Nat) < 2 ^ 62 := by decide
  omega
/-! ### the list of the elements -/
@[irreducible] def elemsTo (m k : Nat) : List Int := ((List.range k).filter (fun x => bitB m x)).map (fun (x : Nat) => (x : Int))
@[irreducible] def elemsL (m : Nat) : List Int := elemsTo m 62
theorem elemsTo_no {m k : Nat} (h : bitB m k = false) : elemsTo m (k + 1) = elemsTo m k := by
  unfold elemsTo; rw [List.range_succ, List.filter_append]; simp [h]
theorem elemsTo_mem {m k : Nat} {z : Int} : z ∈ elemsTo m k ↔ ∃ x : Nat, x < k ∧ bitB m x = true ∧ z = (x : Int) := by
  unfold elemsTo
  simp only [List.mem_map, List.mem_filter, List.mem_range]
  constructor
  · rintro ⟨x, ⟨h1, h2⟩, rfl⟩; exact ⟨x, h1, h2, rfl⟩
  · rintro ⟨x, h1, h2, rfl⟩; exact ⟨x, ⟨h1, h2⟩, rfl⟩
theorem elemsTo_past {m k : Nat} (hm : m < 2 ^ k) (hk : k ≤ 62) : ∀ j, elemsTo m (k + j) = elemsTo m k
  | 0 => rfl
  | j + 1 => by
    have h : bitB m (k + j) = false := by
      cases hb : bitB m (k + j) with
      | false => rfl
      | true => exact absurd (bitB_lt hm hk hb) (by omega)
    rw [← Nat.add_assoc, elemsTo_no h, elemsTo_past hm hk j]
theorem elemsL_eq {m k : Nat} (hm : m < 2 ^ k) (hk : k ≤ 62) : elemsL m = elemsTo m k := by
  unfold elemsL
  have := elemsTo_past hm hk (62 - k)
  rwa [show k + (62 - k) = 62 from by omega] at this
theorem elemsL_get {m k i : Nat} (hm : m < 2 ^ k) (hk : k ≤ 62) (h : i < (elemsL m).length) : ∃ x : Nat, x < k ∧ bitB m x = true ∧ ix (elemsL m) i = (x : Int) := by
  have := ix_mem _ _ h
  rw [elemsL_eq hm hk] at this
  obtain ⟨x, h1, h2, h3⟩ := elemsTo_mem.1 this
  exact ⟨x, h1, h2, by rw [elemsL_eq hm hk]; exact h3⟩
theorem elemsL_has {m k x : Nat} (hm : m < 2 ^ k) (hk : k ≤ 62) (hx : bitB m x = true) : ∃ i, i < (elemsL m).length ∧ ix (elemsL m) i = (x : Int) := by
  have : (x : Int) ∈ elemsL m := by rw [elemsL_eq hm hk]; exact elemsTo_mem.2 ⟨x, bitB_lt hm hk hx, hx, rfl⟩
  obtain ⟨i, h1, h2⟩ := mem_ix this
  exact ⟨i, h1, h2⟩

/-! ### closed sets, subgroups -/
def ClosedRow (t : List (List Int)) (m x k : Nat) : Prop := ∀ y, y < k → bitB m x = true → bitB m y = true → bitB m (ent t x y).toNat = true
def ClosedTo (t : List (List Int)) (m n k : Nat) : Prop := ∀ x, x < k → ClosedRow t m x n
instance (t m x k) : Decidable (ClosedRow t m x k) := by unfold ClosedRow; infer_instance
instance (t m n k) : Decidable (ClosedTo t m n k) := by unfold ClosedTo; infer_instance
@[irreducible] def closedB (t : List (List Int)) (m : Nat) : Bool := decide (ClosedTo t m t.length t.length)
theorem closedB_iff {t m} : closedB t m = true ↔ ClosedTo t m t.length t.length := by unfold closedB; simp
theorem closedB_yes {t m} (h : ClosedTo t m t.length t.length) : closedB t m = true := closedB_iff.2 h
theorem closedB_no {t m} (h : ¬ ClosedTo t m t.length t.length) : closedB t m = false := by rw [← Bool.not_eq_true, closedB_iff]; exact h
theorem ClosedRow.zero (t m x) : ClosedRow t m x 0 := all_zero
theorem ClosedRow.succ {t m x k} (h : ClosedRow t m x k) (hk : bitB m x = true → bitB m k = true → bitB m (ent t x k).toNat = true) : ClosedRow t m x (k + 1) := all_succ h hk
theorem ClosedRow.mono {t m x k k'} (h : ClosedRow t m x k) (hk : k' ≤ k) : ClosedRow t m x k' := all_mono h hk
theorem ClosedTo.zero (t m n) : ClosedTo t m n 0 := all_zero
theorem ClosedTo.succ {t m n k} (h : ClosedTo t m n k) (hk : ClosedRow t m k n) : ClosedTo t m n (k + 1) := all_succ h hk
theorem ClosedTo.mono {t m n k k'} (h : ClosedTo t m n k) (hk : k' ≤ k) : ClosedTo t m n k' := all_mono h hk
def MemRow (t : List (List Int)) (m : Nat) (x k : Nat) : Prop := ∀ j, j < k → bitB m (ent t x (ix (elemsL m) j).toNat).toNat = true
def MemTo (t : List (List Int)) (m : Nat) (k : Nat) : Prop := ∀ i, i < k → MemRow t m (ix (elemsL m) i).toNat (elemsL m).length
theorem MemRow.zero (t m x) : MemRow t m x 0 := all_zero
theorem MemRow.succ {t m x k} (h : MemRow t m x k) (hk : bitB m (ent t x (ix (elemsL m) k).toNat).toNat = true) : MemRow t m x (k + 1) := all_succ h hk
theorem MemRow.mono {t m x k k'} (h : MemRow t m x k) (hk : k' ≤ k) : MemRow t m x k' := all_mono h hk
theorem MemTo.zero (t m) : MemTo t m 0 := all_zero
theorem MemTo.succ {t m k} (h : MemTo t m k) (hk : MemRow t m (ix (elemsL m) k).toNat (elemsL m).length) : MemTo t m (k + 1) := all_succ h hk
theorem MemTo.mono {t m k k'} (h : MemTo t m k) (hk : k' ≤ k) : MemTo t m k' := all_mono h hk
theorem MemTo.closed {t : List (List Int)} {m : Nat} (hm : m < 2 ^ t.length) (hn : t.length ≤ 12) (h : MemTo t m (elemsL m).length) : closedB t m = true := closedB_yes fun x _ y _ bx bY => by
  obtain ⟨i, hi, ei⟩ := elemsL_has hm (by omega) bx
  obtain ⟨j, hj, ej⟩ := elemsL_has hm (by omega) bY
  have := h i hi j hj
  rw [ei, ej] at this
  simpa using this
theorem MemTo.open {t : List (List Int)} {m x y : Nat} (hx : x < t.length) (hy : y < t.length) (bx : bitB m x = true) (bY : bitB m y = true) (h : bitB m (ent t x y).toNat = false) : closedB t m = false :=
  closedB_no fun hc => by rw [hc x hx y hy bx bY] at h; cases h
@[irreducible] def subB (t : List (List Int)) (m : Nat) : Bool := bitB m 0 && closedB t m
end Go.Proofs.YtjfjpngajboidaaGreat
