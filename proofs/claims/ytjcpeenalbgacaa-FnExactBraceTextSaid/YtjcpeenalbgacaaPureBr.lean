/-
  Braces: plain.
-/
import Derived.Test.YtjcpeenalbgacaaBase
import Derived.Test.YtjcpeenalbgacaaBase2
import Derived.Test.YtjcpeenalbgacaaPure1
import Derived.Test.YtjcpeenalbgacaaPureOrd
import Derived.Test.YtjcpeenalbgacaaPureInv
import Derived.Test.YtjcpeenalbgacaaPureTurn
namespace Go.Proofs.Ytjcpeenalbgacaa
set_option linter.unusedVariables false
set_option linter.unusedSimpArgs false

/-- x o (y + z) -/
@[irreducible] def leftF (t u : List (List Int)) (x y z : Nat) : Int := ent u x (ent t y z).toNat
/-- ((x o y) - x) + (x o z) -/
@[irreducible] def rightF (t u : List (List Int)) (x y z : Nat) : Int := ent t (ent t (ent u x y).toNat (backF t x).toNat).toNat (ent u x z).toNat
theorem leftF_def (t u : List (List Int)) (x y z : Nat) : ent u x (ent t y z).toNat = leftF t u x y z := by unfold leftF; rfl
theorem rightF_def (t u : List (List Int)) (x y z : Nat) : ent t (ent t (ent u x y).toNat (backF t x).toNat).toNat (ent u x z).toNat = rightF t u x y z := by unfold rightF; rfl
def NoZ (t u : List (List Int)) (x y k : Nat) : Prop := ∀ z, z < k → leftF t u x y z = rightF t u x y z
def NoY (t u : List (List Int)) (x k : Nat) : Prop := ∀ y, y < k → NoZ t u x y t.length
def NoX (t u : List (List Int)) (k : Nat) : Prop := ∀ x, x < k → NoY t u x t.length
theorem NoZ.zero (t u x y) : NoZ t u x y 0 := all_zero
theorem NoZ.succ {t u x y k} (h : NoZ t u x y k) (hk : leftF t u x y k = rightF t u x y k) : NoZ t u x y (k + 1) := all_succ h hk
theorem NoY.zero (t u x) : NoY t u x 0 := all_zero
theorem NoY.succ {t u x k} (h : NoY t u x k) (hk : NoZ t u x k t.length) : NoY t u x (k + 1) := all_succ h hk
theorem NoX.zero (t u) : NoX t u 0 := all_zero
theorem NoX.succ {t u k} (h : NoX t u k) (hk : NoY t u k t.length) : NoX t u (k + 1) := all_succ h hk
/-- l is the first fault, or there is none and l is empty -/
def IsFault (t u : List (List Int)) (l : List Int) : Prop :=
  (l = [] ∧ NoX t u t.length) ∨ ∃ x y z : Nat, x < t.length ∧ y < t.length ∧ z < t.length ∧ l = [(x : Int), (y : Int), (z : Int)] ∧ leftF t u x y z ≠ rightF t u x y z ∧ NoX t u x ∧ NoY t u x y ∧ NoZ t u x y z
theorem IsFault.uniq {t u : List (List Int)} {l m : List Int} (h : IsFault t u l) (k : IsFault t u m) : l = m := by
  rcases h with ⟨rfl, h⟩ | ⟨x, y, z, hx, hy, hz, rfl, hb, h1, h2, h3⟩
  · rcases k with ⟨rfl, _⟩ | ⟨x, y, z, hx, hy, hz, rfl, hb, _, _, _⟩
    · rfl
    · exact absurd (h x hx y hy z hz) hb
  · rcases k with ⟨rfl, k⟩ | ⟨x', y', z', hx', hy', hz', rfl, hb', k1, k2, k3⟩
    · exact absurd (k x hx y hy z hz) hb
    · have ex : x = x' := by
        rcases Nat.lt_trichotomy x x' with g | g | g
        · exact absurd (k1 x g y hy z hz) hb
        · exact g
        · exact absurd (h1 x' g y' hy' z' hz') hb'
      subst ex
      have ey : y = y' := by
        rcases Nat.lt_trichotomy y y' with g | g | g
        · exact absurd (k2 y g z hz) hb
        · exact g
        · exact absurd (h2 y' g z' hz') hb'
      subst ey
      have ez : z = z' := by
        rcases Nat.lt_trichotomy z z' with g | g | g
        · exact absurd (k3 z g) hb
        · exact g
        · exact absurd (h3 z' g) hb'
      subst ez
      rfl
open Classical in
/-- the first fault, or the empty list -/
@[irreducible] noncomputable def faultL (t u : List (List Int)) : List Int := if h : ∃ l, IsFault t u l then h.choose else []
theorem faultL_eq {t u : List (List Int)} {l : List Int} (h : IsFault t u l) : faultL t u = l := by
  unfold faultL
  rw [dif_pos ⟨l, h⟩]
  exact IsFault.uniq (Exists.choose_spec (p := fun l => IsFault t u l) ⟨l, h⟩) h
theorem faultL_none {t u : List (List Int)} (h : NoX t u t.length) : faultL t u = [] := faultL_eq (.inl ⟨rfl, h⟩)
theorem faultL_at {t u : List (List Int)} {x y z : Nat} (hx : x < t.length) (hy : y < t.length) (hz : z < t.length) (hb : leftF t u x y z ≠ rightF t u x y z) (h1 : NoX t u x) (h2 : NoY t u x y) (h3 : NoZ t u x y z) : faultL t u = [(x : Int), (y : Int), (z : Int)] :=
  faultL_eq (.inr ⟨x, y, z, hx, hy, hz, rfl, hb, h1, h2, h3⟩)

/-- both are groups of equally many elements -/
@[irreducible] def twoB (t u : List (List Int)) : Bool := groupB t && (groupB u && decide (t.length = u.length))
theorem twoB_iff {t u : List (List Int)} : twoB t u = true ↔ GroupOk t ∧ GroupOk u ∧ t.length = u.length := by
  unfold twoB; simp [groupB_iff]
theorem twoB_1 {t u : List (List Int)} (h : groupB t = false) : twoB t u = false := by unfold twoB; simp [h]
theorem twoB_2 {t u : List (List Int)} (h : groupB u = false) : twoB t u = false := by unfold twoB; simp [h]
theorem twoB_3 {t u : List (List Int)} (h : t.length ≠ u.length) : twoB t u = false := by unfold twoB; simp [h]
theorem twoB_yes {t u : List (List Int)} (h : groupB t = true) (h2 : groupB u = true) (h3 : t.length = u.length) : twoB t u = true := by unfold twoB; simp [h, h2, h3]
/-- a brace -/
@[irreducible] noncomputable def braceB (t u : List (List Int)) : Bool := twoB t u && (faultL t u).isEmpty
theorem braceB_1 {t u : List (List Int)} (h : twoB t u = false) : braceB t u = false := by unfold braceB; simp [h]
theorem braceB_2 {t u : List (List Int)} (h : faultL t u ≠ []) : braceB t u = false := by unfold braceB; simp [h]
theorem braceB_yes {t u : List (List Int)} (h : twoB t u = true) (h2 : faultL t u = []) : braceB t u = true := by unfold braceB; simp [h, h2]
theorem braceB_two {t u : List (List Int)} (h : braceB t u = true) : twoB t u = true := by
  cases h' : twoB t u with
  | true => rfl
  | false => rw [braceB_1 h'] at h; cases h
theorem braceB_fault {t u : List (List Int)} (h : braceB t u = true) : faultL t u = [] := by
  apply Classical.byContradiction
  intro h'; rw [braceB_2 h'] at h; cases h
theorem braceB_ok {t u : List (List Int)} (h : braceB t u = true) : GroupOk t ∧ GroupOk u ∧ t.length = u.length := twoB_iff.1 (braceB_two h)
@[irreducible] noncomputable def codeB (t u : List (List Int)) : Int := if braceB t u = true then 0 else 1
theorem codeB_yes {t u} (h : braceB t u = true) : codeB t u = 0 := by unfold codeB; rw [if_pos h]
theorem codeB_no {t u} (h : braceB t u = false) : codeB t u = 1 := by unfold codeB; rw [if_neg (by rw [h]; simp)]
@[irreducible] noncomputable def ifB {α : Type} (t u : List (List Int)) (a d : α) : α := if braceB t u = true then a else d
theorem ifB_yes {α : Type} {t u} {a d : α} (h : braceB t u = true) : ifB t u a d = a := by unfold ifB; rw [if_pos h]
theorem ifB_no {α : Type} {t u} {a d : α} (h : braceB t u = false) : ifB t u a d = d := by unfold ifB; rw [if_neg (by rw [h]; simp)]
end Go.Proofs.Ytjcpeenalbgacaa
