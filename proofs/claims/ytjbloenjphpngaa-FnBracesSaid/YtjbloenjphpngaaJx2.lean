/-
  The plain mathematics of tables and groups: no program in sight.
-/
import Derived.Test.YtjbloenjphpngaaJx0
import Derived.Test.YtjbloenjphpngaaJx1
namespace Go.Proofs.Ytjbloenjphpngaa
set_option linter.unusedVariables false
set_option linter.unusedSimpArgs false

/-- lo <= n <= hi -/
@[irreducible] def inR (n lo hi : Int) : Bool := decide (lo ≤ n) && decide (n ≤ hi)
theorem inR_iff {n lo hi : Int} : inR n lo hi = true ↔ lo ≤ n ∧ n ≤ hi := by unfold inR; simp
theorem inR_false {n lo hi : Int} : inR n lo hi = false ↔ ¬ (lo ≤ n ∧ n ≤ hi) := by rw [← inR_iff]; simp

/-- the first index of n in l at or behind k (counted from k), or -1 -/
def indexFrom (n : Int) : List Int → Nat → Int
  | [], _ => -1
  | x :: r, k => if x = n then (k : Int) else indexFrom n r (k + 1)
/-- the first index of n in l, or -1 -/
@[irreducible] def indexOf (l : List Int) (n : Int) : Int := indexFrom n l 0

theorem drop_cons (l : List Int) (k : Nat) (h : k < l.length) : l.drop k = ix l k :: l.drop (k + 1) := by
  rw [List.drop_eq_getElem_cons h, ix_eq]; simp [List.getD, h]

theorem indexFrom_hit (l : List Int) (n : Int) (k : Nat) (h : k < l.length) (e : ix l k = n) : indexFrom n (l.drop k) k = k := by
  rw [drop_cons l k h, indexFrom, if_pos e]
theorem indexFrom_miss (l : List Int) (n : Int) (k : Nat) (h : k < l.length) (e : ¬ ix l k = n) : indexFrom n (l.drop k) k = indexFrom n (l.drop (k + 1)) (k + 1) := by
  rw [drop_cons l k h, indexFrom, if_neg e]
theorem indexFrom_end (l : List Int) (n : Int) (k : Nat) (h : l.length ≤ k) : indexFrom n (l.drop k) k = -1 := by
  rw [List.drop_of_length_le h]; rfl
theorem indexFrom_spec (n : Int) : ∀ (l : List Int) (k : Nat), (indexFrom n l k = -1 ∧ ∀ i, i < l.length → l.getD i 0 ≠ n) ∨
    ∃ i, i < l.length ∧ indexFrom n l k = ((k + i : Nat) : Int) ∧ l.getD i 0 = n ∧ ∀ j, j < i → l.getD j 0 ≠ n := by
  intro l
  induction l with
  | nil => intro k; left; exact ⟨rfl, fun i hi => by simp at hi⟩
  | cons x r ih =>
    intro k
    by_cases hx : x = n
    · right; exact ⟨0, by simp, by simp [indexFrom, hx], by simpa using hx, fun j hj => by omega⟩
    · rcases ih (k + 1) with ⟨h1, h2⟩ | ⟨i, h1, h2, h3, h4⟩
      · left
        refine ⟨by simp [indexFrom, hx, h1], fun i hi => ?_⟩
        cases i with
        | zero => simpa using hx
        | succ i => simpa using h2 i (by simpa using hi)
      · right
        refine ⟨i + 1, by simpa using h1, by simp only [indexFrom, if_neg hx, h2]; omega, by simpa using h3, fun j hj => ?_⟩
        cases j with
        | zero => simpa using hx
        | succ j => simpa using h4 j (by omega)
theorem indexOf_spec (l : List Int) (n : Int) : (indexOf l n = -1 ∧ ∀ i, i < l.length → ix l i ≠ n) ∨
    ∃ i : Nat, i < l.length ∧ indexOf l n = (i : Int) ∧ ix l i = n ∧ ∀ j, j < i → ix l j ≠ n := by
  have := indexFrom_spec n l 0
  simp only [Nat.zero_add] at this
  unfold indexOf
  simpa only [ix_eq] using this

/-- n occurs in l -/
@[irreducible] def hasB (l : List Int) (n : Int) : Bool := decide (0 ≤ indexOf l n)
theorem hasB_def (l : List Int) (n : Int) : hasB l n = decide (0 ≤ indexOf l n) := by unfold hasB; rfl
theorem hasB_iff {l : List Int} {n : Int} : hasB l n = true ↔ 0 ≤ indexOf l n := by unfold hasB; simp
theorem hasB_no {l : List Int} {n : Int} : hasB l n = false ↔ ¬ 0 ≤ indexOf l n := by unfold hasB; simp

/-! ### tables -/
def RowTo (t : List (List Int)) (n x j : Nat) : Prop := ∀ y, y < j → 0 ≤ ent t x y ∧ ent t x y ≤ (n : Int) - 1
def RowOk (t : List (List Int)) (n x : Nat) : Prop := (row t x).length = n ∧ RowTo t n x n
def RowsOk (t : List (List Int)) (n k : Nat) : Prop := ∀ x, x < k → RowOk t n x
/-- t is a table -/
def TableOk (t : List (List Int)) : Prop := 1 ≤ t.length ∧ t.length ≤ 12 ∧ RowsOk t t.length t.length
instance (t n x j) : Decidable (RowTo t n x j) := by unfold RowTo; infer_instance
instance (t n x) : Decidable (RowOk t n x) := by unfold RowOk; infer_instance
instance (t n k) : Decidable (RowsOk t n k) := by unfold RowsOk; infer_instance
instance (t) : Decidable (TableOk t) := by unfold TableOk; infer_instance
@[irreducible] def tableB (t : List (List Int)) : Bool := decide (TableOk t)
theorem tableB_iff {t : List (List Int)} : tableB t = true ↔ TableOk t := by unfold tableB; simp
theorem tableB_yes {t : List (List Int)} (h : TableOk t) : tableB t = true := tableB_iff.2 h
theorem tableB_no {t : List (List Int)} (h : ¬ TableOk t) : tableB t = false := by rw [← Bool.not_eq_true, tableB_iff]; exact h
theorem RowTo.mono {t n x j j'} (h : RowTo t n x j) (hj : j' ≤ j) : RowTo t n x j' := fun y hy => h y (by omega)
theorem RowsOk.mono {t n k k'} (h : RowsOk t n k) (hk : k' ≤ k) : RowsOk t n k' := fun y hy => h y (by omega)
theorem RowTo.zero (t n x) : RowTo t n x 0 := fun y hy => by omega
theorem RowTo.succ {t n x j} (h : RowTo t n x j) (hj : 0 ≤ ent t x j ∧ ent t x j ≤ (n : Int) - 1) : RowTo t n x (j + 1) := fun y hy => by
  by_cases e : y = j
  · subst e; exact hj
  · exact h y (by omega)
theorem RowsOk.zero (t n) : RowsOk t n 0 := fun y hy => by omega
theorem RowsOk.succ {t n k} (h : RowsOk t n k) (hk : RowOk t n k) : RowsOk t n (k + 1) := fun y hy => by
  by_cases e : y = k
  · subst e; exact hk
  · exact h y (by omega)

/-! ### permutations -/
theorem pigeon {α : Type} [DecidableEq α] : ∀ (a b : List α), a.Nodup → (∀ x, x ∈ a → x ∈ b) → b.length ≤ a.length → (∀ x, x ∈ b → x ∈ a) ∧ b.Nodup
  | [], b, _, _, hl => by
    have : b = [] := List.length_eq_zero_iff.1 (by simpa using hl)
    subst this; simp
  | x :: r, b, hn, hs, hl => by
    have hx : x ∈ b := hs x (by simp)
    have hn' := List.nodup_cons.1 hn
    have hp := List.perm_cons_erase hx
    have hlen := List.length_erase_of_mem hx
    have ⟨i1, i2⟩ := pigeon r (b.erase x) hn'.2 (fun y hy => by
      have hy' := hs y (by simp [hy])
      have hne : y ≠ x := fun e => hn'.1 (e ▸ hy)
      exact (List.mem_erase_of_ne hne).2 hy') (by simp at hl; omega)
    refine ⟨fun y hy => ?_, ?_⟩
    · have := (hp.mem_iff (a := y)).1 hy
      simp only [List.mem_cons] at this ⊢
      exact this.imp id (i1 y)
    · rw [hp.nodup_iff, List.nodup_cons]
      exact ⟨fun h => hn'.1 (i1 x h), i2⟩

theorem ix_mem (l : List Int) (i : Nat) (h : i < l.length) : ix l i ∈ l := by
  rw [ix_eq]; simp [List.getD, h]
theorem mem_ix {l : List Int} {x : Int} (h : x ∈ l) : ∃ i, i < l.length ∧ ix l i = x := by
  obtain ⟨i, hi, e⟩ := List.mem_iff_getElem.1 h
  exact ⟨i, hi, by rw [ix_eq]; simp [List.getD, hi, e]⟩

/-- entries in range -/
def InTo (l : List Int) (k : Nat) : Prop := ∀ i, i < k → 0 ≤ ix l i ∧ ix l i ≤ (l.length : Int) - 1
/-- entries differ -/
def DistinctTo (l : List Int) (k : Nat) : Prop := ∀ i, i < k → ∀ j, j < i → ix l j ≠ ix l i
/-- a list has each of its indices once -/
def PermOk (l : List Int) : Prop := InTo l l.length ∧ DistinctTo l l.length
instance (l k) : Decidable (InTo l k) := by unfold InTo; infer_instance
instance (l k) : Decidable (DistinctTo l k) := by unfold DistinctTo; infer_instance
instance (l) : Decidable (PermOk l) := by unfold PermOk; infer_instance
@[irreducible] def permB (l : List Int) : Bool := decide (PermOk l)
theorem permB_iff {l : List Int} : permB l = true ↔ PermOk l := by unfold permB; simp
theorem permB_yes {l : List Int} (h : PermOk l) : permB l = true := permB_iff.2 h
theorem permB_no {l : List Int} (h : ¬ PermOk l) : permB l = false := by rw [← Bool.not_eq_true, permB_iff]; exact h

def HasTo (l : List Int) (k : Nat) : Prop := ∀ x : Nat, x < k → 0 ≤ indexOf l x
theorem HasTo.zero (l) : HasTo l 0 := fun y hy => by omega
theorem HasTo.mono {l k k'} (h : HasTo l k) (hk : k' ≤ k) : HasTo l k' := fun y hy => h y (by omega)
theorem HasTo.succ {l k} (h : HasTo l k) (hk : 0 ≤ indexOf l k) : HasTo l (k + 1) := fun y hy => by
  by_cases e : y = k
  · subst e; exact hk
  · exact h y (by omega)

theorem nodup_of_distinct : ∀ (l : List Int), DistinctTo l l.length → l.Nodup := by
  intro l h
  rw [List.nodup_iff_pairwise_ne, List.pairwise_iff_getElem]
  intro i j hi hj hij
  have := h j hj i hij
  rw [ix_eq, ix_eq] at this
  simpa [List.getD, hi, hj] using this
theorem distinct_of_nodup (l : List Int) (h : l.Nodup) : DistinctTo l l.length := by
  intro i hi j hj
  rw [List.nodup_iff_pairwise_ne, List.pairwise_iff_getElem] at h
  have := h j i (by omega) hi hj
  rw [ix_eq, ix_eq]
  have hj' : j < l.length := by omega
  simpa [List.getD, hi, hj'] using this

def intRange (n : Nat) : List Int := (List.range n).map fun (i : Nat) => (i : Int)
theorem mem_intRange {n : Nat} {x : Int} : x ∈ intRange n ↔ 0 ≤ x ∧ x < n := by
  unfold intRange
  simp only [List.mem_map, List.mem_range]
  constructor
  · rintro ⟨i, hi, rfl⟩; omega
  · rintro ⟨h0, h1⟩; exact ⟨x.toNat, by omega, by omega⟩
theorem nodup_intRange (n : Nat) : (intRange n).Nodup := by
  unfold intRange
  rw [List.nodup_iff_pairwise_ne, List.pairwise_map]
  exact (List.nodup_iff_pairwise_ne.1 List.nodup_range).imp (fun h => by omega)
theorem length_intRange (n : Nat) : (intRange n).length = n := by simp [intRange]

theorem permOk_iff_has (l : List Int) : PermOk l ↔ HasTo l l.length := by
  constructor
  · intro ⟨h1, h2⟩
    have hp := pigeon l (intRange l.length) (nodup_of_distinct l h2) (fun x hx => by
      obtain ⟨i, hi, rfl⟩ := mem_ix hx
      have := h1 i hi
      rw [mem_intRange]; omega) (by rw [length_intRange]; omega)
    intro x hx
    have hm : (x : Int) ∈ l := hp.1 x (mem_intRange.2 (by omega))
    obtain ⟨i, hi, e⟩ := mem_ix hm
    rcases indexOf_spec l x with ⟨_, h⟩ | ⟨j, _, hj, _⟩
    · exact absurd e (h i hi)
    · rw [hj]; omega
  · intro h
    have hp := pigeon (intRange l.length) l (nodup_intRange _) (fun x hx => by
      have hx' := mem_intRange.1 hx
      have := h x.toNat (by omega)
      rcases indexOf_spec l (x.toNat : Nat) with ⟨h1, _⟩ | ⟨j, h1, _, h3, _⟩
      · omega
      · have : x = ix l j := by omega
        rw [this]; exact ix_mem l j h1) (by rw [length_intRange]; omega)
    refine ⟨fun i hi => ?_, distinct_of_nodup l hp.2⟩
    have := mem_intRange.1 (hp.1 _ (ix_mem l i hi))
    omega

def AllInTo (l : List Int) (lo hi : Int) (k : Nat) : Prop := ∀ i, i < k → lo ≤ ix l i ∧ ix l i ≤ hi
instance (l lo hi k) : Decidable (AllInTo l lo hi k) := by unfold AllInTo; infer_instance
@[irreducible] def allInB (l : List Int) (lo hi : Int) : Bool := decide (AllInTo l lo hi l.length)
theorem allInB_iff {l lo hi} : allInB l lo hi = true ↔ AllInTo l lo hi l.length := by unfold allInB; simp
theorem allInB_yes {l lo hi} (h : AllInTo l lo hi l.length) : allInB l lo hi = true := allInB_iff.2 h
theorem allInB_no {l lo hi} (h : ¬ AllInTo l lo hi l.length) : allInB l lo hi = false := by rw [← Bool.not_eq_true, allInB_iff]; exact h
theorem AllInTo.zero (l lo hi) : AllInTo l lo hi 0 := fun y hy => by omega
theorem AllInTo.mono {l lo hi k k'} (h : AllInTo l lo hi k) (hk : k' ≤ k) : AllInTo l lo hi k' := fun y hy => h y (by omega)
theorem AllInTo.succ {l lo hi k} (h : AllInTo l lo hi k) (hk : lo ≤ ix l k ∧ ix l k ≤ hi) : AllInTo l lo hi (k + 1) := fun y hy => by
  by_cases e : y = k
  · subst e; exact hk
  · exact h y (by omega)

/-- the first index at or behind k at which p holds, or -1 -/
def findFrom {α : Type} (p : α → Bool) : List α → Nat → Int
  | [], _ => -1
  | x :: r, k => if p x then (k : Int) else findFrom p r (k + 1)
@[irreducible] def findIx {α : Type} (p : α → Bool) (l : List α) : Int := findFrom p l 0
theorem row_drop (l : List (List Int)) (k : Nat) (h : k < l.length) : l.drop k = row l k :: l.drop (k + 1) := by
  rw [List.drop_eq_getElem_cons h, row_eq]; simp [List.getD, h]
theorem findFrom_hit (p : List Int → Bool) (l : List (List Int)) (k : Nat) (h : k < l.length) (e : p (row l k) = true) : findFrom p (l.drop k) k = k := by
  rw [row_drop l k h, findFrom, if_pos e]
theorem findFrom_miss (p : List Int → Bool) (l : List (List Int)) (k : Nat) (h : k < l.length) (e : p (row l k) = false) : findFrom p (l.drop k) k = findFrom p (l.drop (k + 1)) (k + 1) := by
  rw [row_drop l k h, findFrom, if_neg (by rw [e]; simp)]
theorem findFrom_end {α : Type} (p : α → Bool) (l : List α) (k : Nat) (h : l.length ≤ k) : findFrom p (l.drop k) k = -1 := by
  rw [List.drop_of_length_le h]; rfl
theorem findFrom_any {α : Type} (p : α → Bool) : ∀ (l : List α) (k : Nat), (0 ≤ findFrom p l k ↔ l.any p = true)
  | [], k => by simp [findFrom]
  | x :: r, k => by
    unfold findFrom
    by_cases h : p x = true
    · simp [h]
    · have h' : p x = false := by simpa using h
      simp only [h', Bool.false_eq_true, if_false, List.any_cons, Bool.false_or]
      exact findFrom_any p r (k + 1)
/-- p holds somewhere in l -/
@[irreducible] def anyB {α : Type} (p : α → Bool) (l : List α) : Bool := l.any p
theorem anyB_find {α : Type} (p : α → Bool) (l : List α) : anyB p l = decide (0 ≤ findIx p l) := by
  unfold anyB findIx
  rw [Bool.eq_iff_iff, decide_eq_true_iff, findFrom_any]
theorem anyB_row (p : List Int → Bool) (t : List (List Int)) : anyB p t = false ↔ ∀ x, x < t.length → p (row t x) = false := by
  unfold anyB
  rw [List.any_eq_false]
  constructor
  · intro h x hx
    have := h (row t x) (by rw [row_eq]; simp [List.getD, hx])
    simpa using this
  · intro h y hy
    obtain ⟨i, hi, rfl⟩ := List.mem_iff_getElem.1 hy
    have := h i hi
    rw [row_eq] at this
    simpa [List.getD, hi] using this

/-- what makes a row no row of a table of n elements -/
@[irreducible] def badRow (n : Int) (l : List Int) : Bool := (((l.length : Int) != n) || !allInB l 0 (n - 1))
theorem badRow_def (n : Int) (l : List Int) : badRow n l = (((l.length : Int) != n) || !allInB l 0 (n - 1)) := by unfold badRow; rfl
theorem tableB_any (t : List (List Int)) : tableB t = (inR t.length 1 12 && !anyB (badRow t.length) t) := by
  rw [Bool.eq_iff_iff, tableB_iff, Bool.and_eq_true, inR_iff, Bool.not_eq_true', anyB_row]
  unfold TableOk
  constructor
  · rintro ⟨h1, h2, h3⟩
    refine ⟨by omega, fun x hx => ?_⟩
    have := h3 x hx
    rw [badRow_def]
    simp only [Bool.or_eq_false_iff, Bool.not_eq_false']
    refine ⟨by have := this.1; simp; omega, allInB_yes (fun i hi => ?_)⟩
    have := this.2 i (by rw [← (h3 x hx).1]; exact hi)
    rw [← ent_def] at this
    exact this
  · rintro ⟨h1, h2⟩
    refine ⟨by omega, by omega, fun x hx => ?_⟩
    have := h2 x hx
    rw [badRow_def] at this
    simp only [Bool.or_eq_false_iff, Bool.not_eq_false'] at this
    have hl : (row t x).length = t.length := by have := this.1; simp at this; omega
    refine ⟨hl, fun y hy => ?_⟩
    have := allInB_iff.1 this.2 y (by rw [hl]; exact hy)
    rw [ent_def] at this
    exact this

/-- element x is among the first k -/
@[irreducible] def seenB (l : List Int) (k x : Nat) : Bool := decide (∃ j, j < k ∧ ix l j = (x : Int))
theorem seenB_zero (l : List Int) (x : Nat) : seenB l 0 x = false := by unfold seenB; simp
theorem seenB_iff {l : List Int} {k x : Nat} : seenB l k x = true ↔ ∃ j, j < k ∧ ix l j = (x : Int) := by unfold seenB; simp
theorem seenB_no {l : List Int} {k x : Nat} : seenB l k x = false ↔ ∀ j, j < k → ix l j ≠ (x : Int) := by
  rw [← Bool.not_eq_true, seenB_iff]
  constructor
  · exact fun h j hj e => h ⟨j, hj, e⟩
  · rintro h ⟨j, hj, e⟩; exact h j hj e
theorem seenB_succ (l : List Int) (k x : Nat) (h0 : 0 ≤ ix l k) : seenB l (k + 1) x = if x = (ix l k).toNat then true else seenB l k x := by
  by_cases e : x = (ix l k).toNat
  · rw [if_pos e, seenB_iff]; exact ⟨k, by omega, by omega⟩
  · rw [if_neg e, Bool.eq_iff_iff, seenB_iff, seenB_iff]
    constructor
    · rintro ⟨j, hj, e'⟩
      exact ⟨j, by
        have : j ≠ k := fun h => by subst h; omega
        omega, e'⟩
    · rintro ⟨j, hj, e'⟩; exact ⟨j, by omega, e'⟩
theorem InTo.zero (l) : InTo l 0 := fun y hy => by omega
theorem InTo.succ {l k} (h : InTo l k) (hk : 0 ≤ ix l k ∧ ix l k ≤ (l.length : Int) - 1) : InTo l (k + 1) := fun y hy => by
  by_cases e : y = k
  · subst e; exact hk
  · exact h y (by omega)
theorem InTo.mono {l k k'} (h : InTo l k) (hk : k' ≤ k) : InTo l k' := fun y hy => h y (by omega)
theorem DistinctTo.zero (l) : DistinctTo l 0 := fun y hy => by omega
theorem DistinctTo.succ {l k} (h : DistinctTo l k) (hk : ∀ j, j < k → ix l j ≠ ix l k) : DistinctTo l (k + 1) := fun y hy => by
  by_cases e : y = k
  · subst e; exact hk
  · exact h y (by omega)
theorem DistinctTo.mono {l k k'} (h : DistinctTo l k) (hk : k' ≤ k) : DistinctTo l k' := fun y hy => h y (by omega)
/-- all rows are permutations -/
@[irreducible] def permRowsB (t : List (List Int)) : Bool := !anyB (fun l => !permB l) t
theorem permRowsB_def (t : List (List Int)) : permRowsB t = !anyB (fun l => !permB l) t := by unfold permRowsB; rfl
theorem permRowsB_iff {t : List (List Int)} : permRowsB t = true ↔ ∀ x, x < t.length → PermOk (row t x) := by
  rw [permRowsB_def, Bool.not_eq_true', anyB_row]
  constructor
  · intro h x hx
    have := h x hx
    exact permB_iff.1 (by simpa using this)
  · intro h x hx
    have := permB_yes (h x hx)
    simpa using this

/-! ### groups -/
def AssocTo (t : List (List Int)) (x y k : Nat) : Prop := ∀ z, z < k → ent t (ent t x y).toNat z = ent t x (ent t y z).toNat
def AssocY (t : List (List Int)) (n x k : Nat) : Prop := ∀ y, y < k → AssocTo t x y n
def UnitAt (t : List (List Int)) (x : Nat) : Prop := ent t 0 x = x ∧ ent t x 0 = x
def PermRows (t : List (List Int)) (k : Nat) : Prop := ∀ x, x < k → PermOk (row t x)
def UnitAssocTo (t : List (List Int)) (n k : Nat) : Prop := ∀ x, x < k → UnitAt t x ∧ AssocY t n x n
/-- t is the table of a group -/
def GroupOk (t : List (List Int)) : Prop := TableOk t ∧ PermRows t t.length ∧ UnitAssocTo t t.length t.length
instance (t x y k) : Decidable (AssocTo t x y k) := by unfold AssocTo; infer_instance
instance (t n x k) : Decidable (AssocY t n x k) := by unfold AssocY; infer_instance
instance (t x) : Decidable (UnitAt t x) := by unfold UnitAt; infer_instance
instance (t k) : Decidable (PermRows t k) := by unfold PermRows; infer_instance
instance (t n k) : Decidable (UnitAssocTo t n k) := by unfold UnitAssocTo; infer_instance
instance (t) : Decidable (GroupOk t) := by unfold GroupOk; infer_instance
@[irreducible] def groupB (t : List (List Int)) : Bool := decide (GroupOk t)
theorem groupB_iff {t : List (List Int)} : groupB t = true ↔ GroupOk t := by unfold groupB; simp
theorem groupB_yes {t : List (List Int)} (h : GroupOk t) : groupB t = true := groupB_iff.2 h
theorem groupB_no {t : List (List Int)} (h : ¬ GroupOk t) : groupB t = false := by rw [← Bool.not_eq_true, groupB_iff]; exact h

theorem all_zero {p : Nat → Prop} : ∀ x, x < 0 → p x := fun x h => by omega
theorem all_succ {p : Nat → Prop} {k : Nat} (h : ∀ x, x < k → p x) (hk : p k) : ∀ x, x < k + 1 → p x := fun y hy => by
  by_cases e : y = k
  · subst e; exact hk
  · exact h y (by omega)
theorem all_mono {p : Nat → Prop} {k k' : Nat} (h : ∀ x, x < k → p x) (hk : k' ≤ k) : ∀ x, x < k' → p x := fun y hy => h y (by omega)
theorem AssocTo.zero (t x y) : AssocTo t x y 0 := all_zero
theorem AssocTo.succ {t x y k} (h : AssocTo t x y k) (hk : ent t (ent t x y).toNat k = ent t x (ent t y k).toNat) : AssocTo t x y (k + 1) := all_succ h hk
theorem AssocTo.mono {t x y k k'} (h : AssocTo t x y k) (hk : k' ≤ k) : AssocTo t x y k' := all_mono h hk
theorem AssocY.zero (t n x) : AssocY t n x 0 := all_zero
theorem AssocY.succ {t n x k} (h : AssocY t n x k) (hk : AssocTo t x k n) : AssocY t n x (k + 1) := all_succ h hk
theorem AssocY.mono {t n x k k'} (h : AssocY t n x k) (hk : k' ≤ k) : AssocY t n x k' := all_mono h hk
theorem PermRows.zero (t) : PermRows t 0 := all_zero
theorem PermRows.succ {t k} (h : PermRows t k) (hk : PermOk (row t k)) : PermRows t (k + 1) := all_succ h hk
theorem PermRows.mono {t k k'} (h : PermRows t k) (hk : k' ≤ k) : PermRows t k' := all_mono h hk
theorem UnitAssocTo.zero (t n) : UnitAssocTo t n 0 := all_zero
theorem UnitAssocTo.succ {t n k} (h : UnitAssocTo t n k) (hk : UnitAt t k) (ha : AssocY t n k n) : UnitAssocTo t n (k + 1) := all_succ h ⟨hk, ha⟩
theorem UnitAssocTo.mono {t n k k'} (h : UnitAssocTo t n k) (hk : k' ≤ k) : UnitAssocTo t n k' := all_mono h hk
theorem TableOk.len {t} (h : TableOk t) {x : Nat} (hx : x < t.length) : (row t x).length = t.length := (h.2.2 x hx).1
theorem TableOk.bd {t} (h : TableOk t) {x y : Nat} (hx : x < t.length) (hy : y < t.length) : 0 ≤ ent t x y ∧ ent t x y ≤ (t.length : Int) - 1 := (h.2.2 x hx).2 y hy
end Go.Proofs.Ytjbloenjphpngaa

/-
  Orders of elements of a group: no program in sight.
-/
namespace Go.Proofs.Ytjbloenjphpngaa
set_option linter.unusedVariables false
set_option linter.unusedSimpArgs false

theorem ent_nn {t : List (List Int)} (h : TableOk t) {x y : Nat} (hx : x < t.length) (hy : y < t.length) : (ent t x y).toNat < t.length := by
  have := h.bd hx hy; omega

/-- x, x x, (x x) x, .. -/
def pw (t : List (List Int)) (x : Nat) : Nat → Int
  | 0 => (x : Int)
  | k + 1 => ent t (pw t x k).toNat x
theorem pw_bd {t : List (List Int)} (h : TableOk t) {x : Nat} (hx : x < t.length) : ∀ k, 0 ≤ pw t x k ∧ pw t x k ≤ (t.length : Int) - 1
  | 0 => by simp only [pw]; omega
  | k + 1 => by
    have := pw_bd h hx k
    simp only [pw]
    exact h.bd (by omega) hx
theorem pw_lt {t : List (List Int)} (h : TableOk t) {x : Nat} (hx : x < t.length) (k : Nat) : (pw t x k).toNat < t.length := by
  have := pw_bd h hx k; omega
theorem grp_assoc {t : List (List Int)} (h : GroupOk t) {x y z : Nat} (hx : x < t.length) (hy : y < t.length) (hz : z < t.length) : ent t (ent t x y).toNat z = ent t x (ent t y z).toNat := (h.2.2 x hx).2 y hy z hz
theorem grp_unit_l {t : List (List Int)} (h : GroupOk t) {x : Nat} (hx : x < t.length) : ent t 0 x = x := (h.2.2 x hx).1.1
theorem grp_unit_r {t : List (List Int)} (h : GroupOk t) {x : Nat} (hx : x < t.length) : ent t x 0 = x := (h.2.2 x hx).1.2
/-- left multiplication is injective -/
theorem grp_inj {t : List (List Int)} (h : GroupOk t) {x y z : Nat} (hx : x < t.length) (hy : y < t.length) (hz : z < t.length) (e : ent t x y = ent t x z) : y = z := by
  have hp := (h.2.1 x hx).2
  have hl := h.1.len hx
  rw [← ent_def, ← ent_def] at e
  rcases Nat.lt_trichotomy y z with h1 | h1 | h1
  · exact absurd e (hp z (by omega) y h1)
  · exact h1
  · exact absurd e.symm (hp y (by omega) z h1)
theorem pw_mul {t : List (List Int)} (h : GroupOk t) {x : Nat} (hx : x < t.length) (i : Nat) : ∀ d, ent t (pw t x i).toNat (pw t x d).toNat = pw t x (i + d + 1)
  | 0 => by simp only [pw, Nat.add_zero, Int.toNat_natCast]
  | d + 1 => by
    have ih := pw_mul h hx i d
    have := grp_assoc h (pw_lt h.1 hx i) (pw_lt h.1 hx d) hx
    rw [ih] at this
    rw [show i + (d + 1) + 1 = (i + d + 1) + 1 by omega]
    simp only [pw] at this ⊢
    exact this.symm
theorem nodup_le {α : Type} [DecidableEq α] : ∀ (a b : List α), a.Nodup → (∀ x, x ∈ a → x ∈ b) → a.length ≤ b.length
  | [], b, _, _ => by simp
  | z :: r, b, hn, hs => by
    have hz : z ∈ b := hs z (by simp)
    have hn' := List.nodup_cons.1 hn
    have h1 := nodup_le r (b.erase z) hn'.2 (fun y hy => by
      have hne : y ≠ z := fun e => hn'.1 (e ▸ hy)
      exact (List.mem_erase_of_ne hne).2 (hs y (by simp [hy])))
    rw [List.length_erase_of_mem hz] at h1
    have h2 : 0 < b.length := List.length_pos_of_mem hz
    simp; omega
/-- two of the first n + 1 powers are the same -/
theorem pw_repeat {t : List (List Int)} (h : TableOk t) {x : Nat} (hx : x < t.length) : ∃ i j, i < j ∧ j ≤ t.length ∧ pw t x i = pw t x j := by
  apply Classical.byContradiction
  intro hno
  have hno' : ∀ i j, i < j → j ≤ t.length → pw t x i ≠ pw t x j := fun i j h1 h2 e => hno ⟨i, j, h1, h2, e⟩
  let l := (List.range (t.length + 1)).map (pw t x)
  have hl : l.length = t.length + 1 := by simp [l]
  have hn : l.Nodup := by
    rw [List.nodup_iff_pairwise_ne, List.pairwise_iff_getElem]
    intro i j hi hj hij
    simp only [l, List.getElem_map, List.getElem_range]
    exact hno' i j hij (by omega)
  have hs : ∀ y, y ∈ l → y ∈ intRange t.length := by
    intro y hy
    simp only [l, List.mem_map, List.mem_range] at hy
    obtain ⟨k, _, rfl⟩ := hy
    have := pw_bd h hx k
    rw [mem_intRange]; omega
  have hlen := nodup_le l (intRange t.length) hn hs
  rw [length_intRange, hl] at hlen
  omega
theorem pw_zero {t : List (List Int)} (h : GroupOk t) {x : Nat} (hx : x < t.length) : ∃ d, d < t.length ∧ pw t x d = 0 := by
  obtain ⟨i, j, hij, hj, e⟩ := pw_repeat h.1 hx
  refine ⟨j - i - 1, by omega, ?_⟩
  have hm := pw_mul h hx i (j - i - 1)
  rw [show i + (j - i - 1) + 1 = j by omega, ← e] at hm
  have hu := grp_unit_r h (pw_lt h.1 hx i)
  have hb := pw_bd h.1 hx i
  have hd := pw_bd h.1 hx (j - i - 1)
  have := grp_inj h (pw_lt h.1 hx i) (pw_lt h.1 hx (j - i - 1)) (z := 0) (by have := h.1.1; omega) (by rw [hm, hu]; omega)
  omega
/-- the powers of x -/
def pws (t : List (List Int)) (x : Nat) : List Int := (List.range t.length).map (pw t x)
theorem length_pws (t : List (List Int)) (x : Nat) : (pws t x).length = t.length := by simp [pws]
theorem ix_pws (t : List (List Int)) (x k : Nat) (h : k < t.length) : ix (pws t x) k = pw t x k := by rw [ix_eq]; simp [pws, List.getD, h]
/-- the order of x -/
@[irreducible] def ordOf (t : List (List Int)) (x : Nat) : Int := indexOf (pws t x) 0 + 1
theorem ordOf_spec {t : List (List Int)} (h : GroupOk t) {x : Nat} (hx : x < t.length) : ∃ d : Nat, d < t.length ∧ ordOf t x = (d : Int) + 1 ∧ pw t x d = 0 ∧ ∀ k, k < d → pw t x k ≠ 0 := by
  obtain ⟨d, hd, hz⟩ := pw_zero h hx
  unfold ordOf
  rcases indexOf_spec (pws t x) 0 with ⟨_, h1⟩ | ⟨i, h1, h2, h3, h4⟩
  · exact absurd (by rw [ix_pws _ _ _ hd]; exact hz) (h1 d (by rw [length_pws]; exact hd))
  · rw [length_pws] at h1
    refine ⟨i, h1, by rw [h2], by rw [← ix_pws _ _ _ h1]; exact h3, fun k hk => ?_⟩
    rw [← ix_pws _ _ _ (by omega)]; exact h4 k hk

/-- the code of a group and an element -/
@[irreducible] def elemC (t : List (List Int)) (a : Int) : Int := if groupB t = true then (if 0 ≤ a ∧ a ≤ (t.length : Int) - 1 then 0 else 2) else 1
theorem elemC_1 {t : List (List Int)} {a : Int} (h : groupB t = false) : elemC t a = 1 := by unfold elemC; simp [h]
theorem elemC_2 {t : List (List Int)} {a : Int} (h : groupB t = true) (h2 : ¬ (0 ≤ a ∧ a ≤ (t.length : Int) - 1)) : elemC t a = 2 := by unfold elemC; rw [if_pos h, if_neg h2]
theorem elemC_0 {t : List (List Int)} {a : Int} (h : groupB t = true) (h2 : 0 ≤ a ∧ a ≤ (t.length : Int) - 1) : elemC t a = 0 := by unfold elemC; rw [if_pos h, if_pos h2]
/-- what OrderIn gives -/
@[irreducible] def ordInV (t : List (List Int)) (a : Int) : Int := if elemC t a = 0 then ordOf t a.toNat else 0
theorem ordInV_bad {t : List (List Int)} {a : Int} (h : elemC t a ≠ 0) : ordInV t a = 0 := by unfold ordInV; rw [if_neg h]
theorem ordInV_good {t : List (List Int)} {x : Nat} (h : elemC t x = 0) : ordInV t x = ordOf t x := by unfold ordInV; rw [if_pos h, Int.toNat_natCast]
end Go.Proofs.Ytjbloenjphpngaa

/-
  Inverses in a group: plain.
-/
namespace Go.Proofs.Ytjbloenjphpngaa
set_option linter.unusedVariables false
set_option linter.unusedSimpArgs false

/-- the list of the values of f -/
@[irreducible] def mkL (n : Nat) (f : Nat → Int) : List Int := (List.range n).map f
theorem length_mkL (n : Nat) (f : Nat → Int) : (mkL n f).length = n := by unfold mkL; simp
theorem ix_mkL (n : Nat) (f : Nat → Int) (i : Nat) (h : i < n) : ix (mkL n f) i = f i := by rw [ix_eq]; unfold mkL; simp [List.getD, h]

/-- the inverse of x -/
@[irreducible] def backF (t : List (List Int)) (x : Nat) : Int := indexOf (row t x) 0
theorem backF_def (t : List (List Int)) (x : Nat) : indexOf (row t x) 0 = backF t x := by unfold backF; rfl
/-- all inverses -/
@[irreducible] def backs (t : List (List Int)) : List Int := mkL t.length (backF t)
theorem length_backs (t : List (List Int)) : (backs t).length = t.length := by unfold backs; exact length_mkL _ _
theorem ix_backs (t : List (List Int)) (x : Nat) (h : x < t.length) : ix (backs t) x = backF t x := by unfold backs; exact ix_mkL _ _ _ h
/-- in a group the inverse is an element, and is inverse -/
theorem backF_ok {t : List (List Int)} (hG : GroupOk t) {x : Nat} (hx : x < t.length) : 0 ≤ backF t x ∧ backF t x ≤ (t.length : Int) - 1 ∧ ent t x (backF t x).toNat = 0 := by
  have hl := hG.1.len hx
  have h0 := (permOk_iff_has (row t x)).1 (hG.2.1 x hx) 0 (by omega)
  unfold backF
  rcases indexOf_spec (row t x) 0 with ⟨h1, _⟩ | ⟨i, hi, h1, h2, _⟩
  · simp at h0; omega
  · rw [h1]
    exact ⟨by omega, by omega, by rw [← ent_def]; simpa using h2⟩

/-- what InverseIn returns -/
@[irreducible] def invV (t : List (List Int)) (a : Int) : Int := if elemC t a = 0 then backF t a.toNat else 0
theorem invV_good {t : List (List Int)} {x : Nat} (h : elemC t x = 0) : invV t x = backF t x := by unfold invV; rw [if_pos h]; simp
theorem invV_bad {t : List (List Int)} {a : Int} (h : elemC t a ≠ 0) : invV t a = 0 := by unfold invV; rw [if_neg h]
end Go.Proofs.Ytjbloenjphpngaa
