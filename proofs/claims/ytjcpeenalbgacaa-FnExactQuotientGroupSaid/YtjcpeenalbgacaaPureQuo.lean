/-
  Cosets, first elements of classes, the quotient's table: plain.
-/
import Derived.Test.YtjcpeenalbgacaaBase
import Derived.Test.YtjcpeenalbgacaaBase2
import Derived.Test.YtjcpeenalbgacaaPure1
import Derived.Test.YtjcpeenalbgacaaPureOrd
import Derived.Test.YtjcpeenalbgacaaPureInv
import Derived.Test.YtjcpeenalbgacaaPureSet
import Derived.Test.YtjcpeenalbgacaaPureNorm
import Derived.Test.YtjcpeenalbgacaaPureNum
namespace Go.Proofs.Ytjcpeenalbgacaa
set_option linter.unusedVariables false
set_option linter.unusedSimpArgs false

/-- the places, among the first i, where a label stands that is as large as what is found so far -/
def firTo (c : List Int) : Nat → List Int
  | 0 => []
  | i + 1 => if (ix c i == ((firTo c i).length : Int)) = true then firTo c i ++ [(i : Int)] else firTo c i
theorem firTo_zero (c : List Int) : firTo c 0 = [] := rfl
theorem firTo_yes {c : List Int} {i : Nat} (h : (ix c i == ((firTo c i).length : Int)) = true) : firTo c (i + 1) = firTo c i ++ [(i : Int)] := by simp only [firTo]; rw [if_pos h]
theorem firTo_no {c : List Int} {i : Nat} (h : (ix c i == ((firTo c i).length : Int)) = false) : firTo c (i + 1) = firTo c i := by simp only [firTo]; rw [if_neg (by rw [h]; simp)]
theorem firTo_len (c : List Int) : ∀ i, (firTo c i).length ≤ i
  | 0 => by simp [firTo]
  | i + 1 => by
    have := firTo_len c i
    cases h : (ix c i == ((firTo c i).length : Int)) with
    | true => rw [firTo_yes h]; simp; omega
    | false => rw [firTo_no h]; omega
theorem firTo_get (c : List Int) {k : Nat} (h : (ix c k == ((firTo c k).length : Int)) = true) : ∀ d, ix (firTo c (k + 1 + d)) (firTo c k).length = (k : Int) ∧ (firTo c k).length < (firTo c (k + 1 + d)).length
  | 0 => by rw [Nat.add_zero, firTo_yes h]; exact ⟨ix_append_one _ _, by simp⟩
  | d + 1 => by
    have ⟨h1, h2⟩ := firTo_get c h d
    rw [← Nat.add_assoc]
    cases hb : (ix c (k + 1 + d) == ((firTo c (k + 1 + d)).length : Int)) with
    | true => rw [firTo_yes hb, ix_append_left h2]; exact ⟨h1, by simp; omega⟩
    | false => rw [firTo_no hb]; exact ⟨h1, h2⟩
theorem firTo_at {c : List Int} {k n : Nat} (h : (ix c k == ((firTo c k).length : Int)) = true) (hk : k < n) : ix (firTo c n) (firTo c k).length = (k : Int) ∧ (firTo c k).length < (firTo c n).length := by
  have := firTo_get c h (n - (k + 1))
  rwa [show k + 1 + (n - (k + 1)) = n from by omega] at this
theorem firTo_mono (c : List Int) {k n : Nat} (h : k ≤ n) : (firTo c k).length ≤ (firTo c n).length := by
  induction n with
  | zero => have : k = 0 := by omega
            subst this; exact Nat.le_refl _
  | succ n ih =>
    rcases Nat.lt_or_ge n k with g | g
    · have : k = n + 1 := by omega
      subst this; exact Nat.le_refl _
    · have := ih g
      cases hb : (ix c n == ((firTo c n).length : Int)) with
      | true => rw [firTo_yes hb]; simp; omega
      | false => rw [firTo_no hb]; omega
theorem firTo_mem (c : List Int) : ∀ i j, j < (firTo c i).length → ∃ x : Nat, x < i ∧ ix (firTo c i) j = (x : Int)
  | 0, j, h => by simp [firTo] at h
  | i + 1, j, h => by
    cases hb : (ix c i == ((firTo c i).length : Int)) with
    | false =>
      rw [firTo_no hb] at h ⊢
      obtain ⟨x, h1, h2⟩ := firTo_mem c i j h
      exact ⟨x, by omega, h2⟩
    | true =>
      rw [firTo_yes hb] at h ⊢
      rcases Nat.lt_or_ge j (firTo c i).length with g | g
      · obtain ⟨x, h1, h2⟩ := firTo_mem c i j g
        exact ⟨x, by omega, by rw [ix_append_left g]; exact h2⟩
      · have : j = (firTo c i).length := by simp at h; omega
        subst this
        exact ⟨i, by omega, ix_append_one _ _⟩
theorem firTo_num (l : List Int) : ∀ i, i ≤ l.length → (firTo (numL l) i).length = (seenTo l i).length
  | 0, _ => rfl
  | i + 1, h => by
    have ih := firTo_num l i (by omega)
    have hi := ix_numL l i (by omega)
    cases hb : hasB (seenTo l i) (ix l i) with
    | true =>
      have h1 : numF l i < ((seenTo l i).length : Int) := by
        rw [numF_old hb]
        rcases indexOf_spec (seenTo l i) (ix l i) with ⟨h1, _⟩ | ⟨j, h1, h2, _⟩
        · rw [h1]; omega
        · rw [h2]; omega
      have h2 : (ix (numL l) i == ((firTo (numL l) i).length : Int)) = false := by
        rw [hi, ih]; simp; omega
      rw [firTo_no h2, seenTo_old hb, ih]
    | false =>
      have h2 : (ix (numL l) i == ((firTo (numL l) i).length : Int)) = true := by
        rw [hi, ih, numF_new hb]; simp
      rw [firTo_yes h2, seenTo_new hb]; simp [ih]
theorem num_le (l : List Int) {i : Nat} (h : i < l.length) : ix (numL l) i ≤ ((firTo (numL l) i).length : Int) := by
  rw [ix_numL l i h, firTo_num l i (by omega)]
  cases hb : hasB (seenTo l i) (ix l i) with
  | true =>
    rw [numF_old hb]
    rcases indexOf_spec (seenTo l i) (ix l i) with ⟨h1, _⟩ | ⟨j, h1, h2, _⟩
    · rw [h1]; omega
    · rw [h2]; omega
  | false => rw [numF_new hb]; exact Int.le_refl _

/-- the table of a quotient by classes -/
@[irreducible] def quoN (t : List (List Int)) (c : List Int) : Nat := (firTo c t.length).length
@[irreducible] def quoF (t : List (List Int)) (c : List Int) (i j : Nat) : Int := ix c (ent t (ix (firTo c t.length) i).toNat (ix (firTo c t.length) j).toNat).toNat
theorem quoN_def (t c) : (firTo c t.length).length = quoN t c := by unfold quoN; rfl
theorem quoF_def (t : List (List Int)) (c : List Int) (i j x y : Nat) (h1 : ix (firTo c t.length) i = (x : Int)) (h2 : ix (firTo c t.length) j = (y : Int)) : quoF t c i j = ix c (ent t x y).toNat := by unfold quoF; rw [h1, h2, Int.toNat_natCast, Int.toNat_natCast]
@[irreducible] def quoT (t : List (List Int)) (c : List Int) : List (List Int) := mkT (quoN t c) (quoF t c)
theorem quoT_def (t c) : mkT (quoN t c) (quoF t c) = quoT t c := by unfold quoT; rfl
theorem quoN_le (t c) : quoN t c ≤ t.length := by rw [← quoN_def]; exact firTo_len _ _
theorem quoN_at {t : List (List Int)} {c : List Int} {k : Nat} (hk : k < t.length) (h : (ix c k == ((firTo c k).length : Int)) = true) : (firTo c k).length < quoN t c := by
  rw [← quoN_def]; exact (firTo_at h hk).2
theorem quoN_mono {t : List (List Int)} {c : List Int} {k : Nat} (hk : k ≤ t.length) : (firTo c k).length ≤ quoN t c := by rw [← quoN_def]; exact firTo_mono c hk
theorem quoF_at {t : List (List Int)} {c : List Int} {k j : Nat} (hk : k < t.length) (hj : j < t.length) (h : (ix c k == ((firTo c k).length : Int)) = true) (g : (ix c j == ((firTo c j).length : Int)) = true) : quoF t c (firTo c k).length (firTo c j).length = ix c (ent t k j).toNat :=
  quoF_def _ _ _ _ _ _ (firTo_at h hk).1 (firTo_at g hj).1

/-- the least product of x with members -/
@[irreducible] def cosG (t : List (List Int)) (x : Nat) (e : List Int) : Int := e.foldl (fun a y => min a (ent t x y.toNat)) (x : Int)
theorem cosG_nil (t x) : cosG t x [] = (x : Int) := by unfold cosG; rfl
theorem cosG_add (t : List (List Int)) (x : Nat) (e : List Int) (y : Int) : cosG t x (e ++ [y]) = min (cosG t x e) (ent t x y.toNat) := by unfold cosG; simp
@[irreducible] def cosF (t : List (List Int)) (m x : Nat) : Int := cosG t x (elemsL m)
theorem cosF_def (t m x) : cosG t x (elemsL m) = cosF t m x := by unfold cosF; rfl
@[irreducible] def coL (t : List (List Int)) (m : Nat) : List Int := mkL t.length (cosF t m)
theorem length_coL (t m) : (coL t m).length = t.length := by unfold coL; exact length_mkL _ _
theorem ix_coL (t : List (List Int)) (m i : Nat) (h : i < t.length) : ix (coL t m) i = cosF t m i := by unfold coL; exact ix_mkL _ _ _ h
@[irreducible] def cosL (t : List (List Int)) (m : Nat) : List Int := numL (coL t m)
theorem cosL_def (t m) : numL (coL t m) = cosL t m := by unfold cosL; rfl
theorem length_cosL (t m) : (cosL t m).length = t.length := by rw [← cosL_def, length_numL, length_coL]
theorem cosL_le (t : List (List Int)) (m : Nat) {i : Nat} (h : i < t.length) : ix (cosL t m) i ≤ ((firTo (cosL t m) i).length : Int) := by
  rw [← cosL_def]; exact num_le _ (by rw [length_coL]; exact h)

/-- the code of QuotientGroup; its table -/
@[irreducible] def quoC (t : List (List Int)) (a : Int) : Int := if subC t a = 0 then (if normV t a = true then 0 else 5) else subC t a
@[irreducible] def quoV (t : List (List Int)) (a : Int) : List (List Int) := if quoC t a = 0 then quoT t (cosL t a.toNat) else []
theorem quo_bad {t a} (h : subC t a ≠ 0) : quoC t a = subC t a ∧ quoV t a = [] := by
  have h1 : quoC t a = subC t a := by unfold quoC; rw [if_neg h]
  exact ⟨h1, by unfold quoV; rw [if_neg (by rw [h1]; exact h)]⟩
theorem quo_no {t} {m : Nat} (h : subC t m = 0) (h2 : normB t m = false) : quoC t m = 5 ∧ quoV t m = [] := by
  have h1 : quoC t m = 5 := by unfold quoC; rw [if_pos h, if_neg (by rw [normV_good h, h2]; simp)]
  exact ⟨h1, by unfold quoV; rw [if_neg (by rw [h1]; decide)]⟩
theorem quo_yes {t} {m : Nat} (h : subC t m = 0) (h2 : normB t m = true) : quoC t m = 0 ∧ quoV t m = quoT t (cosL t m) := by
  have h1 : quoC t m = 0 := by unfold quoC; rw [if_pos h, if_pos (by rw [normV_good h, h2])]
  exact ⟨h1, by unfold quoV; rw [if_pos h1, Int.toNat_natCast]⟩
end Go.Proofs.Ytjcpeenalbgacaa
