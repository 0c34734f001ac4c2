/-
  Sets as natural numbers; the socle: plain.
-/
import Derived.Test.YtncmfbebdbchbaaBase
import Derived.Test.YtncmfbebdbchbaaBase2
import Derived.Test.YtncmfbebdbchbaaPure1
import Derived.Test.YtncmfbebdbchbaaPureOrd
import Derived.Test.YtncmfbebdbchbaaPureInv
import Derived.Test.YtncmfbebdbchbaaPureTurn
import Derived.Test.YtncmfbebdbchbaaPureSet
import Derived.Test.YtncmfbebdbchbaaW7
import Derived.Test.YtncmfbebdbchbaaW8
import Derived.Test.YtncmfbebdbchbaaW12
namespace Go.Proofs.Ytncmfbebdbchbaa
set_option linter.unusedVariables false
set_option linter.unusedSimpArgs false
open Go.RowKit

/-- the set of the x below k with p x -/
def natTo (p : Nat → Bool) : Nat → Nat
  | 0 => 0
  | k + 1 => if p k = true then natTo p k ||| 2 ^ k else natTo p k
@[irreducible] def natSet (p : Nat → Bool) (k : Nat) : Nat := natTo p k
theorem natSet_zero (p) : natSet p 0 = 0 := by unfold natSet; rfl
theorem natSet_yes {p : Nat → Bool} {k : Nat} (h : p k = true) : natSet p (k + 1) = natSet p k ||| 2 ^ k := by unfold natSet; simp only [natTo]; rw [if_pos h]
theorem natSet_no {p : Nat → Bool} {k : Nat} (h : p k = false) : natSet p (k + 1) = natSet p k := by unfold natSet; simp only [natTo]; rw [if_neg (by rw [h]; simp)]
theorem natSet_bit (p : Nat → Bool) : ∀ (k i : Nat), (natSet p k).testBit i = (decide (i < k) && p i)
  | 0, i => by rw [natSet_zero]; simp
  | k + 1, i => by
    have ih := natSet_bit p k i
    cases h : p k with
    | true =>
      rw [natSet_yes h, Nat.testBit_or, ih, Nat.testBit_two_pow]
      by_cases e : k = i
      · subst e; simp [h]
      · have h1 : decide (i < k + 1) = decide (i < k) := by rw [Bool.eq_iff_iff]; simp; omega
        rw [h1]; simp [e]
    | false =>
      rw [natSet_no h, ih]
      by_cases e : k = i
      · subst e; simp [h]
      · have h1 : decide (i < k + 1) = decide (i < k) := by rw [Bool.eq_iff_iff]; simp; omega
        rw [h1]
theorem natSet_lt (p : Nat → Bool) (k : Nat) : natSet p k < 2 ^ k := by
  apply Nat.lt_pow_two_of_testBit
  intro i hi
  rw [natSet_bit]
  have : decide (i < k) = false := by simp; omega
  rw [this]; rfl
theorem natSet_ext {p q : Nat → Bool} {k : Nat} (h : ∀ i, i < k → p i = q i) : natSet p k = natSet q k := by
  apply Nat.eq_of_testBit_eq
  intro i
  rw [natSet_bit, natSet_bit]
  by_cases hi : i < k
  · rw [h i hi]
  · have : decide (i < k) = false := by simp; omega
    rw [this]; rfl
theorem bits_or_nat {a b : Nat} (ha : a < 2 ^ 62) (hb : b < 2 ^ 62) : bits .or .i64 (a : Int) (b : Int) = ((a ||| b : Nat) : Int) :=
  (bits_nat .i64 62 (by decide) (fun n h0 h1 => by rw [IntKind.wrap_i64]; omega) a b ha hb).2
theorem bits_and_nat {a b : Nat} (ha : a < 2 ^ 62) (hb : b < 2 ^ 62) : bits .and .i64 (a : Int) (b : Int) = ((a &&& b : Nat) : Int) :=
  (bits_nat .i64 62 (by decide) (fun n h0 h1 => by rw [IntKind.wrap_i64]; omega) a b ha hb).1
theorem wrap_pow {x : Nat} (h : x < 62) : wrap64 (2 ^ x) = ((2 ^ x : Nat) : Int) := by
  have h1 : 2 ^ x < 2 ^ 62 := Nat.pow_lt_pow_right (by decide) h
  have hc : ((2 : Int) ^ x) = ((2 ^ x : Nat) : Int) := by simp
  rw [hc]
  clear hc
  generalize 2 ^ x = P at h1
  exact IntWalk.wrap64_in _ (by omega)
theorem or_pow {a x : Nat} (ha : a < 2 ^ 62) (h : x < 62) : bits .or .i64 (a : Int) (wrap64 (2 ^ x)) = ((a ||| 2 ^ x : Nat) : Int) := by
  rw [wrap_pow h, bits_or_nat ha (Nat.pow_lt_pow_right (by decide) h)]
theorem setOf_nat (p : Nat → Bool) : ∀ k, k ≤ 62 → setOf p k = ((natSet p k : Nat) : Int)
  | 0, _ => by rw [setOf_zero, natSet_zero]; rfl
  | k + 1, h => by
    have ih := setOf_nat p k (by omega)
    have hl : natSet p k < 2 ^ 62 := Nat.lt_of_lt_of_le (natSet_lt p k) (Nat.pow_le_pow_right (by decide) (by omega))
    cases hp : p k with
    | true => rw [setOf_yes hp, natSet_yes hp, ih, or_pow hl (by omega)]
    | false => rw [setOf_no hp, natSet_no hp, ih]
theorem natSet_and (p q : Nat → Bool) (k : Nat) : natSet p k &&& natSet q k = natSet (fun x => p x && q x) k := by
  apply Nat.eq_of_testBit_eq
  intro i
  rw [Nat.testBit_and, natSet_bit, natSet_bit, natSet_bit]
  cases decide (i < k) <;> cases p i <;> cases q i <;> rfl
theorem natSet_62 (p : Nat → Bool) {k : Nat} (h : k ≤ 62) : natSet p k < 2 ^ 62 := Nat.lt_of_lt_of_le (natSet_lt p k) (Nat.pow_le_pow_right (by decide) h)

/-! ### the socle -/
def SocTo (t u : List (List Int)) (x k : Nat) : Prop := ∀ y, y < k → ent u x y = ent t x y ∧ ent t x y = ent t y x
instance (t u x k) : Decidable (SocTo t u x k) := by unfold SocTo; infer_instance
@[irreducible] def socB (t u : List (List Int)) (x k : Nat) : Bool := decide (SocTo t u x k)
theorem socB_iff {t u x k} : socB t u x k = true ↔ SocTo t u x k := by unfold socB; simp
theorem socB_zero (t u x) : socB t u x 0 = true := socB_iff.2 (fun y hy => by omega)
theorem socB_succ (t u : List (List Int)) (x k : Nat) : socB t u x (k + 1) = ((socB t u x k && (ent u x k == ent t x k)) && (ent t x k == ent t k x)) := by
  rw [Bool.eq_iff_iff, Bool.and_eq_true, Bool.and_eq_true, socB_iff, socB_iff, beq_iff_eq, beq_iff_eq]
  constructor
  · intro h; exact ⟨⟨fun y hy => h y (by omega), (h k (by omega)).1⟩, (h k (by omega)).2⟩
  · rintro ⟨⟨h1, h2⟩, h3⟩ y hy
    by_cases e : y = k
    · subst e; exact ⟨h2, h3⟩
    · exact h1 y (by omega)
theorem row_eq_ent {t u : List (List Int)} (h : TableOk t) (h2 : TableOk u) (hl : t.length = u.length) {x : Nat} (hx : x < t.length) : row t x = row u x ↔ ∀ y, y < t.length → ent u x y = ent t x y := by
  constructor
  · intro e y hy
    rw [← ent_def, ← ent_def, e]
  · intro hc
    refine ix_ext (by rw [h.len hx, h2.len (by omega), hl]) fun i hi => ?_
    rw [h.len hx] at hi
    rw [ent_def, ent_def]
    exact (hc i hi).symm
theorem socB_row {t u : List (List Int)} (h : TableOk t) (h2 : TableOk u) (hl : t.length = u.length) {x : Nat} (hx : x < t.length) : (eqIB (row t x) (row u x) && eqIB (row t x) (row (turnT t) x)) = socB t u x t.length := by
  rw [Bool.eq_iff_iff, Bool.and_eq_true, eqIB_iff, eqIB_iff, socB_iff, row_eq_ent h h2 hl hx, row_eq_turn h hx]
  constructor
  · rintro ⟨a, b⟩ y hy; exact ⟨a y hy, b y hy⟩
  · intro a; exact ⟨fun y hy => (a y hy).1, fun y hy => (a y hy).2⟩
@[irreducible] def socI (t u : List (List Int)) : Int := setOf (fun x => socB t u x t.length) t.length
theorem socI_def (t u : List (List Int)) : socI t u = setOf (fun x => socB t u x t.length) t.length := by unfold socI; rfl
/-- the socle as a number -/
@[irreducible] def socN (t u : List (List Int)) : Nat := natSet (fun x => socB t u x t.length) t.length
theorem socN_def (t u : List (List Int)) : socN t u = natSet (fun x => socB t u x t.length) t.length := by unfold socN; rfl
theorem socI_nat {t u : List (List Int)} (h : t.length ≤ 12) : socI t u = ((socN t u : Nat) : Int) := by rw [socI_def, socN_def, setOf_nat _ _ (by omega)]
/-- the annihilator -/
@[irreducible] def annN (t u : List (List Int)) : Nat := natSet (fun x => socB t u x t.length && comB u x t.length) t.length
theorem annN_def (t u : List (List Int)) : annN t u = natSet (fun x => socB t u x t.length && comB u x t.length) t.length := by unfold annN; rfl
theorem ann_spec {t u : List (List Int)} (h : t.length ≤ 12) (hl : t.length = u.length) : bits .and .i64 (socI t u) (centerI u) = ((annN t u : Nat) : Int) := by
  rw [socI_def, centerI_def, ← hl, setOf_nat _ _ (by omega), setOf_nat _ _ (by omega), bits_and_nat (natSet_62 _ (by omega)) (natSet_62 _ (by omega)), natSet_and, annN_def]
/-- the program's way: S holds what of the first i elements of the list is central -/
def AnnTo (t u : List (List Int)) (i S : Nat) : Prop := S < 2 ^ t.length ∧ ∀ x : Nat, S.testBit x = true ↔ (∃ j, j < i ∧ ix (elemsL (socN t u)) j = (x : Int)) ∧ comB u x t.length = true
theorem AnnTo.zero (t u) : AnnTo t u 0 0 := ⟨Nat.two_pow_pos _, fun x => by simp⟩
theorem AnnTo.no {t u i S} (h : AnnTo t u i S) {x : Nat} (hx : ix (elemsL (socN t u)) i = (x : Int)) (hc : comB u x t.length = false) : AnnTo t u (i + 1) S := ⟨h.1, fun y => by
  rw [h.2]
  constructor
  · rintro ⟨⟨j, hj, e⟩, hy⟩; exact ⟨⟨j, by omega, e⟩, hy⟩
  · rintro ⟨⟨j, hj, e⟩, hy⟩
    refine ⟨⟨j, ?_, e⟩, hy⟩
    apply Classical.byContradiction
    intro hji
    have : j = i := by omega
    subst this
    rw [hx] at e
    have : x = y := by omega
    subst this
    rw [hc] at hy; cases hy⟩
theorem AnnTo.yes {t u i S} (h : AnnTo t u i S) {x : Nat} (hl : x < t.length) (hx : ix (elemsL (socN t u)) i = (x : Int)) (hc : comB u x t.length = true) : AnnTo t u (i + 1) (S ||| 2 ^ x) := by
  refine ⟨Nat.or_lt_two_pow h.1 (Nat.pow_lt_pow_right (by decide) hl), fun y => ?_⟩
  rw [Nat.testBit_or, Nat.testBit_two_pow, Bool.or_eq_true, h.2, decide_eq_true_iff]
  constructor
  · rintro (⟨⟨j, hj, e⟩, hy⟩ | rfl)
    · exact ⟨⟨j, by omega, e⟩, hy⟩
    · exact ⟨⟨i, by omega, hx⟩, hc⟩
  · rintro ⟨⟨j, hj, e⟩, hy⟩
    by_cases hji : j = i
    · subst hji
      rw [hx] at e
      right; omega
    · left; exact ⟨⟨j, by omega, e⟩, hy⟩
theorem AnnTo.done {t u S} (hn : t.length ≤ 12) (h : AnnTo t u (elemsL (socN t u)).length S) : S = annN t u := by
  have hsl : socN t u < 2 ^ t.length := by rw [socN_def]; exact natSet_lt _ _
  have hs62 := lt62 hn hsl
  apply Nat.eq_of_testBit_eq
  intro x
  rw [Bool.eq_iff_iff, h.2, annN_def, natSet_bit, Bool.and_eq_true, Bool.and_eq_true, decide_eq_true_iff]
  constructor
  · rintro ⟨⟨j, hj, e⟩, hy⟩
    obtain ⟨z, hz, bz, ez⟩ := elemsL_get hsl (by omega) hj
    rw [e] at ez
    have : x = z := by omega
    subst this
    rw [bitB_test hs62, socN_def, natSet_bit, Bool.and_eq_true] at bz
    exact ⟨hz, bz.2, hy⟩
  · rintro ⟨hx, hs, hy⟩
    have hb : bitB (socN t u) x = true := by rw [bitB_test hs62, socN_def, natSet_bit, hs]; simp [hx]
    obtain ⟨j, hj, e⟩ := elemsL_has hsl (by omega) hb
    exact ⟨⟨j, hj, e⟩, hy⟩
end Go.Proofs.Ytncmfbebdbchbaa
