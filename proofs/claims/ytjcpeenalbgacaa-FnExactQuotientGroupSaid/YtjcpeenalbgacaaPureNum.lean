/-
  Numbering labels by their first occurrence: plain.
-/
import Derived.Test.YtjcpeenalbgacaaBase
import Derived.Test.YtjcpeenalbgacaaBase2
import Derived.Test.YtjcpeenalbgacaaPure1
import Derived.Test.YtjcpeenalbgacaaPureOrd
import Derived.Test.YtjcpeenalbgacaaPureInv
namespace Go.Proofs.Ytjcpeenalbgacaa
set_option linter.unusedVariables false
set_option linter.unusedSimpArgs false

/-- the labels among the first i, each once, in the order of their first occurrence -/
def seenTo (l : List Int) : Nat → List Int
  | 0 => []
  | i + 1 => if hasB (seenTo l i) (ix l i) = true then seenTo l i else seenTo l i ++ [ix l i]
theorem seenTo_old {l : List Int} {i : Nat} (h : hasB (seenTo l i) (ix l i) = true) : seenTo l (i + 1) = seenTo l i := by simp only [seenTo]; rw [if_pos h]
theorem seenTo_new {l : List Int} {i : Nat} (h : hasB (seenTo l i) (ix l i) = false) : seenTo l (i + 1) = seenTo l i ++ [ix l i] := by simp only [seenTo]; rw [if_neg (by rw [h]; simp)]
theorem seenTo_len (l : List Int) : ∀ i, (seenTo l i).length ≤ i
  | 0 => by simp [seenTo]
  | i + 1 => by
    have := seenTo_len l i
    cases h : hasB (seenTo l i) (ix l i) with
    | true => rw [seenTo_old h]; omega
    | false => rw [seenTo_new h]; simp; omega
theorem hasB_mem {l : List Int} {n : Int} : hasB l n = true ↔ n ∈ l := by
  rw [hasB_iff]
  rcases indexOf_spec l n with ⟨h1, h2⟩ | ⟨i, h1, h2, h3, _⟩
  · rw [h1]
    constructor
    · intro h; omega
    · intro h; obtain ⟨i, hi, e⟩ := mem_ix h; exact absurd e (h2 i hi)
  · rw [h2]
    constructor
    · intro _; rw [← h3]; exact ix_mem l i h1
    · intro _; omega
theorem ix_append_left {a b : List Int} {i : Nat} (h : i < a.length) : ix (a ++ b) i = ix a i := by
  rw [ix_eq, ix_eq]; simp [List.getD, List.getElem?_append_left h]
theorem ix_append_one (a : List Int) (x : Int) : ix (a ++ [x]) a.length = x := by rw [ix_eq]; simp [List.getD]
theorem indexOf_append_old {a b : List Int} {x : Int} (h : hasB a x = true) : indexOf (a ++ b) x = indexOf a x := by
  rcases indexOf_spec a x with ⟨h1, _⟩ | ⟨i, h1, h2, h3, h4⟩
  · rw [hasB_iff, h1] at h; omega
  · rcases indexOf_spec (a ++ b) x with ⟨_, k2⟩ | ⟨j, k1, k2, k3, k4⟩
    · exact absurd (by rw [ix_append_left h1, h3]) (k2 i (by simp; omega))
    · rw [h2, k2]
      have hij : i = j := by
        rcases Nat.lt_trichotomy i j with g | g | g
        · exact absurd (by rw [ix_append_left h1, h3]) (k4 i g)
        · exact g
        · exact absurd (by rw [← ix_append_left (b := b) (by omega), k3]) (h4 j g)
      rw [hij]
theorem indexOf_append_new {a : List Int} {x : Int} (h : hasB a x = false) : indexOf (a ++ [x]) x = (a.length : Int) := by
  have hn : ¬ x ∈ a := fun hm => by rw [hasB_mem.2 hm] at h; cases h
  rcases indexOf_spec (a ++ [x]) x with ⟨_, k2⟩ | ⟨j, k1, k2, k3, k4⟩
  · exact absurd (ix_append_one a x) (k2 a.length (by simp))
  · rw [k2]
    have hj : ¬ j < a.length := fun hj => by
      rw [ix_append_left hj] at k3
      exact hn (by rw [← k3]; exact ix_mem a j hj)
    have : j = a.length := by simp at k1; omega
    rw [this]
/-- the number of label i -/
@[irreducible] def numF (l : List Int) (i : Nat) : Int := indexOf (seenTo l (i + 1)) (ix l i)
@[irreducible] def numL (l : List Int) : List Int := mkL l.length (numF l)
theorem length_numL (l : List Int) : (numL l).length = l.length := by unfold numL; exact length_mkL _ _
theorem ix_numL (l : List Int) (i : Nat) (h : i < l.length) : ix (numL l) i = numF l i := by unfold numL; exact ix_mkL _ _ _ h
theorem numF_old {l : List Int} {i : Nat} (h : hasB (seenTo l i) (ix l i) = true) : numF l i = indexOf (seenTo l i) (ix l i) := by unfold numF; rw [seenTo_old h]
theorem numF_new {l : List Int} {i : Nat} (h : hasB (seenTo l i) (ix l i) = false) : numF l i = ((seenTo l i).length : Int) := by unfold numF; rw [seenTo_new h, indexOf_append_new h]
theorem numF_eq (l : List Int) (i : Nat) : indexOf (seenTo l (i + 1)) (ix l i) = numF l i := by unfold numF; rfl
/-- what is seen stays seen, at its place -/
theorem seenTo_mono {l : List Int} {x : Int} {i : Nat} (h : hasB (seenTo l i) x = true) : ∀ d, hasB (seenTo l (i + d)) x = true ∧ indexOf (seenTo l (i + d)) x = indexOf (seenTo l i) x
  | 0 => ⟨h, rfl⟩
  | d + 1 => by
    have ⟨h1, h2⟩ := seenTo_mono h d
    rw [← Nat.add_assoc]
    cases hb : hasB (seenTo l (i + d)) (ix l (i + d)) with
    | true => rw [seenTo_old hb]; exact ⟨h1, h2⟩
    | false =>
      rw [seenTo_new hb]
      exact ⟨hasB_mem.2 (List.mem_append.2 (.inl (hasB_mem.1 h1))), by rw [indexOf_append_old h1, h2]⟩
theorem seenTo_has (l : List Int) (i : Nat) : hasB (seenTo l (i + 1)) (ix l i) = true := by
  cases hb : hasB (seenTo l i) (ix l i) with
  | true => rw [seenTo_old hb]; exact hb
  | false => rw [seenTo_new hb]; exact hasB_mem.2 (by simp)
theorem numF_end (l : List Int) {i n : Nat} (h : i < n) : indexOf (seenTo l n) (ix l i) = numF l i := by
  have := (seenTo_mono (seenTo_has l i) (n - (i + 1))).2
  rw [show i + 1 + (n - (i + 1)) = n from by omega, numF_eq] at this
  exact this
/-- numbers are at least 0 and below their own place and one -/
theorem numF_bd (l : List Int) (i : Nat) : 0 ≤ numF l i ∧ numF l i ≤ (i : Int) := by
  have h := seenTo_has l i
  rw [hasB_iff, numF_eq] at h
  refine ⟨h, ?_⟩
  have := seenTo_len l (i + 1)
  rcases indexOf_spec (seenTo l (i + 1)) (ix l i) with ⟨h1, _⟩ | ⟨j, h1, h2, _⟩
  · rw [numF_eq] at h1; omega
  · rw [numF_eq] at h2; omega
end Go.Proofs.Ytjcpeenalbgacaa
