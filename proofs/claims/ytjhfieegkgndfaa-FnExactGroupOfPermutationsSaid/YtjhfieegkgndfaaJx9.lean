/-
  The table the other way round; comparing; sets as numbers: plain.
-/
import Derived.Test.YtjhfieegkgndfaaJx0
import Derived.Test.YtjhfieegkgndfaaJx1
import Derived.Test.YtjhfieegkgndfaaJx5
import Derived.Test.YtjhfieegkgndfaaJx6
import Derived.Test.YtjhfieegkgndfaaJx7
import Derived.Test.YtjhfieegkgndfaaJx8
import Derived.Test.YtjhfieegkgndfaaJx3
namespace Go.Proofs.Ytjhfieegkgndfaa
set_option linter.unusedVariables false
set_option linter.unusedSimpArgs false
open Go.RowKit

/-- the other way round -/
@[irreducible] def turnF (t : List (List Int)) (x y : Nat) : Int := ent t y x
theorem turnF_def (t : List (List Int)) (x y : Nat) : turnF t x y = ent t y x := by unfold turnF; rfl
@[irreducible] def turnT (t : List (List Int)) : List (List Int) := mkT t.length (turnF t)
theorem turnT_def (t : List (List Int)) : turnT t = mkT t.length (turnF t) := by unfold turnT; rfl
theorem length_turnT (t : List (List Int)) : (turnT t).length = t.length := by rw [turnT_def]; exact length_mkT _ _
theorem length_row_mkT (n : Nat) (f : Nat → Nat → Int) (x : Nat) (h : x < n) : (row (mkT n f) x).length = n := by rw [row_mkT _ _ _ h]; exact length_partRow _ _ _ _
theorem length_row_turnT (t : List (List Int)) (x : Nat) (h : x < t.length) : (row (turnT t) x).length = t.length := by rw [turnT_def]; exact length_row_mkT _ _ _ h
theorem ent_turnT (t : List (List Int)) (x y : Nat) (hx : x < t.length) (hy : y < t.length) : ent (turnT t) x y = ent t y x := by rw [turnT_def, ent_mkT _ _ _ _ hx hy, turnF_def]
theorem small_turnT {t : List (List Int)} (h : t.length ≤ 1048576) : Small (turnT t) := by rw [turnT_def]; exact small_mkT h _

/-! ### comparing -/
def cmpI (a b : Int) : Int := if a < b then -1 else if b < a then 1 else 0
theorem cmpI_zero {a b : Int} : cmpI a b = 0 ↔ a = b := by
  unfold cmpI
  split
  · constructor
    · intro h; simp at h
    · intro h; omega
  · split
    · constructor
      · intro h; simp at h
      · intro h; omega
    · constructor
      · intro _; omega
      · intro _; rfl
/-- lexicographic: the first place that differs, then the length -/
def cmpBy {α : Type} (c : α → α → Int) : List α → List α → Int
  | [], [] => 0
  | [], _ :: _ => -1
  | _ :: _, [] => 1
  | x :: r, y :: s => if c x y = 0 then cmpBy c r s else c x y
theorem cmpBy_zero {α : Type} {c : α → α → Int} (hc : ∀ x y, c x y = 0 ↔ x = y) : ∀ l m : List α, cmpBy c l m = 0 ↔ l = m
  | [], [] => by simp [cmpBy]
  | [], _ :: _ => by simp [cmpBy]
  | _ :: _, [] => by simp [cmpBy]
  | x :: r, y :: s => by
    unfold cmpBy
    by_cases h : c x y = 0
    · rw [if_pos h, cmpBy_zero hc r s]
      have := (hc x y).1 h
      subst this; simp
    · rw [if_neg h]
      constructor
      · intro h2; exact absurd h2 h
      · intro h2
        have : x = y := by simpa using congrArg List.head? h2
        exact absurd ((hc x y).2 this) h
@[irreducible] def cmpL (l m : List Int) : Int := cmpBy cmpI l m
@[irreducible] def cmpT (s t : List (List Int)) : Int := cmpBy cmpL s t
theorem cmpL_zero {l m : List Int} : cmpL l m = 0 ↔ l = m := by unfold cmpL; exact cmpBy_zero (fun _ _ => cmpI_zero) l m
theorem cmpT_zero {s t : List (List Int)} : cmpT s t = 0 ↔ s = t := by unfold cmpT; exact cmpBy_zero (fun _ _ => cmpL_zero) s t
/-- behind the first k places -/
@[irreducible] def cmpLF (l m : List Int) (k : Nat) : Int := cmpL (l.drop k) (m.drop k)
@[irreducible] def cmpTF (s t : List (List Int)) (k : Nat) : Int := cmpT (s.drop k) (t.drop k)
theorem cmpLF_zero (l m : List Int) : cmpL l m = cmpLF l m 0 := by unfold cmpLF; simp
theorem cmpTF_zero (l m : List (List Int)) : cmpT l m = cmpTF l m 0 := by unfold cmpTF; simp
theorem cmpLF_more {l m : List Int} {k : Nat} (h : k < l.length) (h2 : m.length ≤ k) : cmpLF l m k = 1 := by
  unfold cmpLF cmpL; rw [drop_cons l k h, List.drop_of_length_le h2]; rfl
theorem cmpLF_less {l m : List Int} {k : Nat} (h : l.length ≤ k) (h2 : k < m.length) : cmpLF l m k = -1 := by
  unfold cmpLF cmpL; rw [drop_cons m k h2, List.drop_of_length_le h]; rfl
theorem cmpLF_end {l m : List Int} {k : Nat} (h : l.length ≤ k) (h2 : m.length ≤ k) : cmpLF l m k = 0 := by
  unfold cmpLF cmpL; rw [List.drop_of_length_le h2, List.drop_of_length_le h]; rfl
theorem cmpLF_ne {l m : List Int} {k : Nat} (h : k < l.length) (h2 : k < m.length) (e : cmpI (ix l k) (ix m k) ≠ 0) : cmpLF l m k = cmpI (ix l k) (ix m k) := by
  unfold cmpLF cmpL; rw [drop_cons l k h, drop_cons m k h2]; simp only [cmpBy]; rw [if_neg e]
theorem cmpLF_eq {l m : List Int} {k : Nat} (h : k < l.length) (h2 : k < m.length) (e : cmpI (ix l k) (ix m k) = 0) : cmpLF l m k = cmpLF l m (k + 1) := by
  unfold cmpLF cmpL; rw [drop_cons l k h, drop_cons m k h2]; simp only [cmpBy]; rw [if_pos e]
theorem cmpTF_more {l m : List (List Int)} {k : Nat} (h : k < l.length) (h2 : m.length ≤ k) : cmpTF l m k = 1 := by
  unfold cmpTF cmpT; rw [row_drop l k h, List.drop_of_length_le h2]; rfl
theorem cmpTF_less {l m : List (List Int)} {k : Nat} (h : l.length ≤ k) (h2 : k < m.length) : cmpTF l m k = -1 := by
  unfold cmpTF cmpT; rw [row_drop m k h2, List.drop_of_length_le h]; rfl
theorem cmpTF_end {l m : List (List Int)} {k : Nat} (h : l.length ≤ k) (h2 : m.length ≤ k) : cmpTF l m k = 0 := by
  unfold cmpTF cmpT; rw [List.drop_of_length_le h2, List.drop_of_length_le h]; rfl
theorem cmpTF_ne {l m : List (List Int)} {k : Nat} (h : k < l.length) (h2 : k < m.length) (e : cmpL (row l k) (row m k) ≠ 0) : cmpTF l m k = cmpL (row l k) (row m k) := by
  unfold cmpTF cmpT; rw [row_drop l k h, row_drop m k h2]; simp only [cmpBy]; rw [if_neg e]
theorem cmpTF_eq {l m : List (List Int)} {k : Nat} (h : k < l.length) (h2 : k < m.length) (e : cmpL (row l k) (row m k) = 0) : cmpTF l m k = cmpTF l m (k + 1) := by
  unfold cmpTF cmpT; rw [row_drop l k h, row_drop m k h2]; simp only [cmpBy]; rw [if_pos e]
theorem cmpT_eqTB (s t : List (List Int)) : (cmpT s t == 0) = eqTB s t := by
  rw [Bool.eq_iff_iff, eqTB_iff, beq_iff_eq, cmpT_zero]

/-! ### abelian, center -/
@[irreducible] def abelB (t : List (List Int)) : Bool := eqTB t (turnT t)
theorem abelB_def (t : List (List Int)) : eqTB t (turnT t) = abelB t := by unfold abelB; rfl
/-- x y = y x for the first k elements y -/
def ComTo (t : List (List Int)) (x k : Nat) : Prop := ∀ y, y < k → ent t x y = ent t y x
instance (t x k) : Decidable (ComTo t x k) := by unfold ComTo; infer_instance
def ComAll (t : List (List Int)) (k : Nat) : Prop := ∀ x, x < k → ComTo t x x
theorem ComTo.zero (t x) : ComTo t x 0 := all_zero
theorem ComTo.succ {t x k} (h : ComTo t x k) (hk : ent t x k = ent t k x) : ComTo t x (k + 1) := all_succ h hk
theorem ComTo.mono {t x k k'} (h : ComTo t x k) (hk : k' ≤ k) : ComTo t x k' := all_mono h hk
theorem ComAll.zero (t) : ComAll t 0 := all_zero
theorem ComAll.succ {t k} (h : ComAll t k) (hk : ComTo t k k) : ComAll t (k + 1) := all_succ h hk
theorem row_eq_turn {t : List (List Int)} (h : TableOk t) {x : Nat} (hx : x < t.length) : row t x = row (turnT t) x ↔ ComTo t x t.length := by
  constructor
  · intro e y hy
    rw [← ent_turnT t x y hx hy, ← ent_def, e, ent_def]
  · intro hc
    refine ix_ext (by rw [h.len hx, length_row_turnT _ _ hx]) fun i hi => ?_
    rw [h.len hx] at hi
    rw [ent_def, ent_def, ent_turnT t x i hx hi]
    exact hc i hi
theorem abelB_iff {t : List (List Int)} (h : TableOk t) : abelB t = true ↔ ComAll t t.length := by
  rw [← abelB_def, eqTB_iff]
  constructor
  · intro e x hx y hy
    have : row t x = row (turnT t) x := by rw [← e]
    exact (row_eq_turn h hx).1 this y (by omega)
  · intro hc
    refine row_ext (by rw [length_turnT]) fun x hx => (row_eq_turn h hx).2 fun y hy => ?_
    rcases Nat.lt_trichotomy x y with h1 | h1 | h1
    · exact (hc y hy x h1).symm
    · rw [h1]
    · exact hc x hx y h1
@[irreducible] def comB (t : List (List Int)) (x k : Nat) : Bool := decide (ComTo t x k)
theorem comB_iff {t x k} : comB t x k = true ↔ ComTo t x k := by unfold comB; simp
theorem comB_zero (t x) : comB t x 0 = true := comB_iff.2 (ComTo.zero t x)
theorem comB_succ (t : List (List Int)) (x k : Nat) : comB t x (k + 1) = (comB t x k && (ent t x k == ent t k x)) := by
  rw [Bool.eq_iff_iff, Bool.and_eq_true, comB_iff, comB_iff, beq_iff_eq]
  exact ⟨fun h => ⟨h.mono (by omega), h k (by omega)⟩, fun h => h.1.succ h.2⟩
theorem comB_row {t : List (List Int)} (h : TableOk t) {x : Nat} (hx : x < t.length) : eqIB (row t x) (row (turnT t) x) = comB t x t.length := by
  rw [Bool.eq_iff_iff, eqIB_iff, comB_iff]; exact row_eq_turn h hx

/-- the number whose bits are the x below k with p x, as the program makes it -/
def setTo (p : Nat → Bool) : Nat → Int
  | 0 => 0
  | k + 1 => if p k = true then bits .or .i64 (setTo p k) (wrap64 (2 ^ k)) else setTo p k
@[irreducible] def setOf (p : Nat → Bool) (k : Nat) : Int := setTo p k
theorem setOf_zero (p) : setOf p 0 = 0 := by unfold setOf; rfl
theorem setOf_yes {p : Nat → Bool} {k : Nat} (h : p k = true) : setOf p (k + 1) = bits .or .i64 (setOf p k) (wrap64 (2 ^ k)) := by unfold setOf; simp only [setTo]; rw [if_pos h]
theorem setOf_no {p : Nat → Bool} {k : Nat} (h : p k = false) : setOf p (k + 1) = setOf p k := by unfold setOf; simp only [setTo]; rw [if_neg (by rw [h]; simp)]
@[irreducible] def centerI (t : List (List Int)) : Int := setOf (fun x => comB t x t.length) t.length
theorem centerI_def (t : List (List Int)) : centerI t = setOf (fun x => comB t x t.length) t.length := by unfold centerI; rfl
/-- no group: 1 -/
@[irreducible] def codeG (t : List (List Int)) : Int := if groupB t = true then 0 else 1
theorem codeG_yes {t} (h : groupB t = true) : codeG t = 0 := by unfold codeG; rw [if_pos h]
theorem codeG_no {t} (h : groupB t = false) : codeG t = 1 := by unfold codeG; rw [if_neg (by rw [h]; simp)]
/-- a value where t is a group -/
@[irreducible] def ifG {α : Type} (t : List (List Int)) (a d : α) : α := if groupB t = true then a else d
theorem ifG_yes {α : Type} {t} {a d : α} (h : groupB t = true) : ifG t a d = a := by unfold ifG; rw [if_pos h]
theorem ifG_no {α : Type} {t} {a d : α} (h : groupB t = false) : ifG t a d = d := by unfold ifG; rw [if_neg (by rw [h]; simp)]
end Go.Proofs.Ytjhfieegkgndfaa

/-
  Braces: plain.
-/
namespace Go.Proofs.Ytjhfieegkgndfaa
set_option linter.unusedVariables false
set_option linter.unusedSimpArgs false

/-- x o (y + z) -/
@[irreducible] def leftF (t u : List (List Int)) (x y z : Nat) : Int := ent u x (ent t y z).toNat
/-- ((x o y) - x) + (x o z) -/
@[irreducible] def rightF (t u : List (List Int)) (x y z : Nat) : Int := ent t (ent t (ent u x y).toNat (backF t x).toNat).toNat (ent u x z).toNat
theorem leftF_def (t u : List (List Int)) (x y z : Nat) : ent u x (ent t y z).toNat = leftF t u x y z := by unfold leftF; rfl
theorem rightF_def (t u : List (List Int)) (x y z : Nat) : ent t (ent t (ent u x y).toNat (backF t x).toNat).toNat (ent u x z).toNat = rightF t u x y z := by unfold rightF; rfl
def NoZ (t u : List (List Int)) (x y k : Nat) : Prop := ∀ z, z < k → leftF t u x y z = rightF t u x y z
def NoY (t u : List (List Int)) (x k : Nat) : Prop := ∀ y, y < k → NoZ t u x y t.length
def NoX (t u : List (List Int)) (k : Nat) : Prop := ∀ x, x < k → NoY t u x t.length
theorem NoZ.zero (t u x y) : NoZ t u x y 0 := all_zero
theorem NoZ.succ {t u x y k} (h : NoZ t u x y k) (hk : leftF t u x y k = rightF t u x y k) : NoZ t u x y (k + 1) := all_succ h hk
theorem NoY.zero (t u x) : NoY t u x 0 := all_zero
theorem NoY.succ {t u x k} (h : NoY t u x k) (hk : NoZ t u x k t.length) : NoY t u x (k + 1) := all_succ h hk
theorem NoX.zero (t u) : NoX t u 0 := all_zero
theorem NoX.succ {t u k} (h : NoX t u k) (hk : NoY t u k t.length) : NoX t u (k + 1) := all_succ h hk
/-- l is the first fault, or there is none and l is empty -/
def IsFault (t u : List (List Int)) (l : List Int) : Prop :=
  (l = [] ∧ NoX t u t.length) ∨ ∃ x y z : Nat, x < t.length ∧ y < t.length ∧ z < t.length ∧ l = [(x : Int), (y : Int), (z : Int)] ∧ leftF t u x y z ≠ rightF t u x y z ∧ NoX t u x ∧ NoY t u x y ∧ NoZ t u x y z
theorem IsFault.uniq {t u : List (List Int)} {l m : List Int} (h : IsFault t u l) (k : IsFault t u m) : l = m := by
  rcases h with ⟨rfl, h⟩ | ⟨x, y, z, hx, hy, hz, rfl, hb, h1, h2, h3⟩
  · rcases k with ⟨rfl, _⟩ | ⟨x, y, z, hx, hy, hz, rfl, hb, _, _, _⟩
    · rfl
    · exact absurd (h x hx y hy z hz) hb
  · rcases k with ⟨rfl, k⟩ | ⟨x', y', z', hx', hy', hz', rfl, hb', k1, k2, k3⟩
    · exact absurd (k x hx y hy z hz) hb
    · have ex : x = x' := by
        rcases Nat.lt_trichotomy x x' with g | g | g
        · exact absurd (k1 x g y hy z hz) hb
        · exact g
        · exact absurd (h1 x' g y' hy' z' hz') hb'
      subst ex
      have ey : y = y' := by
        rcases Nat.lt_trichotomy y y' with g | g | g
        · exact absurd (k2 y g z hz) hb
        · exact g
        · exact absurd (h2 y' g z' hz') hb'
      subst ey
      have ez : z = z' := by
        rcases Nat.lt_trichotomy z z' with g | g | g
        · exact absurd (k3 z g) hb
        · exact g
        · exact absurd (h3 z' g) hb'
      subst ez
      rfl
open Classical in
/-- the first fault, or the empty list -/
@[irreducible] noncomputable def faultL (t u : List (List Int)) : List Int := if h : ∃ l, IsFault t u l then h.choose else []
theorem faultL_eq {t u : List (List Int)} {l : List Int} (h : IsFault t u l) : faultL t u = l := by
  unfold faultL
  rw [dif_pos ⟨l, h⟩]
  exact IsFault.uniq (Exists.choose_spec (p := fun l => IsFault t u l) ⟨l, h⟩) h
theorem faultL_none {t u : List (List Int)} (h : NoX t u t.length) : faultL t u = [] := faultL_eq (.inl ⟨rfl, h⟩)
theorem faultL_at {t u : List (List Int)} {x y z : Nat} (hx : x < t.length) (hy : y < t.length) (hz : z < t.length) (hb : leftF t u x y z ≠ rightF t u x y z) (h1 : NoX t u x) (h2 : NoY t u x y) (h3 : NoZ t u x y z) : faultL t u = [(x : Int), (y : Int), (z : Int)] :=
  faultL_eq (.inr ⟨x, y, z, hx, hy, hz, rfl, hb, h1, h2, h3⟩)

/-- both are groups of equally many elements -/
@[irreducible] def twoB (t u : List (List Int)) : Bool := groupB t && (groupB u && decide (t.length = u.length))
theorem twoB_iff {t u : List (List Int)} : twoB t u = true ↔ GroupOk t ∧ GroupOk u ∧ t.length = u.length := by
  unfold twoB; simp [groupB_iff]
theorem twoB_1 {t u : List (List Int)} (h : groupB t = false) : twoB t u = false := by unfold twoB; simp [h]
theorem twoB_2 {t u : List (List Int)} (h : groupB u = false) : twoB t u = false := by unfold twoB; simp [h]
theorem twoB_3 {t u : List (List Int)} (h : t.length ≠ u.length) : twoB t u = false := by unfold twoB; simp [h]
theorem twoB_yes {t u : List (List Int)} (h : groupB t = true) (h2 : groupB u = true) (h3 : t.length = u.length) : twoB t u = true := by unfold twoB; simp [h, h2, h3]
/-- a brace -/
@[irreducible] noncomputable def braceB (t u : List (List Int)) : Bool := twoB t u && (faultL t u).isEmpty
theorem braceB_1 {t u : List (List Int)} (h : twoB t u = false) : braceB t u = false := by unfold braceB; simp [h]
theorem braceB_2 {t u : List (List Int)} (h : faultL t u ≠ []) : braceB t u = false := by unfold braceB; simp [h]
theorem braceB_yes {t u : List (List Int)} (h : twoB t u = true) (h2 : faultL t u = []) : braceB t u = true := by unfold braceB; simp [h, h2]
theorem braceB_two {t u : List (List Int)} (h : braceB t u = true) : twoB t u = true := by
  cases h' : twoB t u with
  | true => rfl
  | false => rw [braceB_1 h'] at h; cases h
theorem braceB_fault {t u : List (List Int)} (h : braceB t u = true) : faultL t u = [] := by
  apply Classical.byContradiction
  intro h'; rw [braceB_2 h'] at h; cases h
theorem braceB_ok {t u : List (List Int)} (h : braceB t u = true) : GroupOk t ∧ GroupOk u ∧ t.length = u.length := twoB_iff.1 (braceB_two h)
@[irreducible] noncomputable def codeB (t u : List (List Int)) : Int := if braceB t u = true then 0 else 1
theorem codeB_yes {t u} (h : braceB t u = true) : codeB t u = 0 := by unfold codeB; rw [if_pos h]
theorem codeB_no {t u} (h : braceB t u = false) : codeB t u = 1 := by unfold codeB; rw [if_neg (by rw [h]; simp)]
@[irreducible] noncomputable def ifB {α : Type} (t u : List (List Int)) (a d : α) : α := if braceB t u = true then a else d
theorem ifB_yes {α : Type} {t u} {a d : α} (h : braceB t u = true) : ifB t u a d = a := by unfold ifB; rw [if_pos h]
theorem ifB_no {α : Type} {t u} {a d : α} (h : braceB t u = false) : ifB t u a d = d := by unfold ifB; rw [if_neg (by rw [h]; simp)]
end Go.Proofs.Ytjhfieegkgndfaa

/-
  Conjugation in a group; reading tables: plain.
-/
namespace Go.Proofs.Ytjhfieegkgndfaa
set_option linter.unusedVariables false
set_option linter.unusedSimpArgs false

/-- x y (inverse of x) -/
@[irreducible] def conjF (t : List (List Int)) (x y : Nat) : Int := ent t (ent t x y).toNat (backF t x).toNat
theorem conjF_def (t : List (List Int)) (x y : Nat) : ent t (ent t x y).toNat (backF t x).toNat = conjF t x y := by unfold conjF; rfl

/-- a row of a table, as it lies, and its entries -/
theorem RowsAt.read {w : World} {b o n : Nat} {t : List (List Int)} (h : RowsAt w b o t) (hT : TableOk t) (hn : t.length = n) {x : Nat} (hx : x < n) :
    ∃ d s m, w.cell? ⟨b, o + x, none⟩ = some (.slice (some ⟨d, s, none⟩) n m) ∧ ∀ y, y < n → w.cell? ⟨d, s + y, none⟩ = some (.int .i64 (ent t x y)) ∧ 0 ≤ ent t x y ∧ ent t x y < (n : Int) := by
  subst hn
  obtain ⟨d, s, m, r, l, -⟩ := h.get hx
  rw [hT.len hx] at r
  exact ⟨d, s, m, r, fun y hy => ⟨l.ent (hT.len hx) hy, (hT.bd hx hy).1, by have := (hT.bd hx hy).2; omega⟩⟩
end Go.Proofs.Ytjhfieegkgndfaa

/-
  Cells, marks and lists behind single steps of the world, for backward chaining. No program in sight.
-/
namespace Go.Proofs.Ytjhfieegkgndfaa
set_option linter.unusedVariables false
set_option linter.unusedSimpArgs false
open Go.RowKit

theorem bcell {W w1 : World} (hb : Ext W w1) : (∀ b o, b < W.heap.size → w1.cell? ⟨b, o, none⟩ = W.cell? ⟨b, o, none⟩) ∧ (∀ b o, b < W.heap.size → w1.frozen? ⟨b, o, none⟩ = W.frozen? ⟨b, o, none⟩) :=
  ⟨fun b o h => Below.cell hb (p := ⟨b, o, none⟩) h, fun b o h => Below.frozen hb (p := ⟨b, o, none⟩) h⟩
theorem kc_alloc {w : World} {a : Addr} {v : Value} {o : Obj} (h : w.cell? a = some v) : (w.alloc o).cell? a = some v := ((Ext.refl w).alloc o).cell h
theorem kc_drew {w : World} {a : Addr} {v : Value} (h : w.cell? a = some v) : w.drew.cell? a = some v := h
theorem kc_drewN {w : World} {a : Addr} {v : Value} {n : Nat} (h : w.cell? a = some v) : (w.drewN n).cell? a = some v := ((Ext.refl w).drewN n).cell h
theorem kc_set {w : World} {a p : Addr} {v u : Value} (hb : a.block ≠ p.block) (h : w.cell? a = some v) : (w.setCell p u).cell? a = some v := by
  rw [World.cell?_setCell_other _ _ _ _ (fun e => hb (by rw [e]))]; exact h
theorem kc_set2 {w : World} {a p : Addr} {v u : Value} (hb : a.off ≠ p.off) (h : w.cell? a = some v) : (w.setCell p u).cell? a = some v := by
  rw [World.cell?_setCell_other _ _ _ _ (fun e => hb (by rw [e]))]; exact h
theorem kc_same {w : World} {a : Addr} {v u : Value} (h : w.cell? a = some v) : (w.setCell a u).cell? a = some u := World.cell?_setCell_same _ _ _ h
theorem kc_new {w : World} {v : Value} {T : Nat} : (w.alloc (.cells #[v] T)).cell? ⟨w.heap.size, 0, none⟩ = some v := by simp
theorem kc_new1 {w : World} {o : Obj} {v : Value} {T : Nat} : ((w.alloc o).alloc (.cells #[v] T)).cell? ⟨w.heap.size + 1, 0, none⟩ = some v := by simp [go_sem]
theorem ki_alloc {w : World} {b o : Nat} {l : List Int} {x : Obj} (h : IntsAt w b o l) : IntsAt (w.alloc x) b o l := h.ext ((Ext.refl w).alloc x)
theorem ki_drew {w : World} {b o : Nat} {l : List Int} (h : IntsAt w b o l) : IntsAt w.drew b o l := h.ext (Ext.refl w).drew
theorem ki_set {w : World} {b o : Nat} {l : List Int} {p : Addr} {u : Value} (hb : b ≠ p.block) (h : IntsAt w b o l) : IntsAt (w.setCell p u) b o l := fun i hi => kc_set (a := ⟨b, o + i, none⟩) hb (h i hi)
theorem ki_setNil {w : World} {b o : Nat} {l : List Int} {p : Addr} {u : Value} (hp : w.cell? p = some (.slice none 0 0)) (h : IntsAt w b o l) : IntsAt (w.setCell p u) b o l := h.setNil hp u
theorem kr_alloc {w : World} {b o : Nat} {t : List (List Int)} {x : Obj} (h : RowsAt w b o t) : RowsAt (w.alloc x) b o t := h.ext ((Ext.refl w).alloc x)
theorem kc_newE {w : World} {v : Value} {T n : Nat} (h : n = w.heap.size) : (w.alloc (.cells #[v] T)).cell? ⟨n, 0, none⟩ = some v := by subst h; exact kc_new
theorem kc_newEa {w : World} {v u : Value} {T n : Nat} (h : n = w.heap.size) : (w.alloc (.cells #[v, u] T)).cell? ⟨n, 0, none⟩ = some v := by subst h; simp [go_sem]
theorem kc_newEb {w : World} {v u : Value} {T n : Nat} (h : n = w.heap.size) : (w.alloc (.cells #[v, u] T)).cell? ⟨n, 1, none⟩ = some u := by subst h; simp [go_sem]
theorem kx_set {a w : World} {p : Addr} {u : Value} (hp : a.heap.size ≤ p.block) (h : Ext a w) : Ext a (w.setCell p u) := h.setNew hp u
theorem kx_alloc {a w : World} {o : Obj} (h : Ext a w) : Ext a (w.alloc o) := h.alloc o
theorem kx_drewN {a w : World} {n : Nat} (h : Ext a w) : Ext a (w.drewN n) := h.drewN n
theorem kf_alloc {w : World} {a : Addr} {o : Obj} (hb : a.block < w.heap.size) (h : w.frozen? a = false) : (w.alloc o).frozen? a = false := ((Ext.refl w).alloc o).free h hb
theorem kf_set {w : World} {a p : Addr} {u : Value} (h : w.frozen? a = false) : (w.setCell p u).frozen? a = false := by rw [World.frozen?_setCell]; exact h
end Go.Proofs.Ytjhfieegkgndfaa

/-
  Isomorphisms of lists of tables, in lexicographic order: plain.
-/
namespace Go.Proofs.Ytjhfieegkgndfaa
set_option linter.unusedVariables false
set_option linter.unusedSimpArgs false

/-- table k of a list of tables -/
@[irreducible] def tab (ts : List (List (List Int))) (k : Nat) : List (List Int) := ts.getD k []
theorem tab_eq (ts : List (List (List Int))) (k : Nat) : tab ts k = ts.getD k [] := by unfold tab; rfl
theorem tab_one (t : List (List Int)) : tab [t] 0 = t := by rw [tab_eq]; rfl
theorem tab_two0 (t u : List (List Int)) : tab [t, u] 0 = t := by rw [tab_eq]; rfl
theorem tab_two1 (t u : List (List Int)) : tab [t, u] 1 = u := by rw [tab_eq]; rfl
/-- tables of n elements -/
def TabsOk (n : Nat) (ts : List (List (List Int))) : Prop := ∀ k, k < ts.length → TableOk (tab ts k) ∧ (tab ts k).length = n
theorem TabsOk.bd {n : Nat} {ts : List (List (List Int))} (h : TabsOk n ts) {k x y : Nat} (hk : k < ts.length) (hx : x < n) (hy : y < n) : 0 ≤ ent (tab ts k) x y ∧ (ent (tab ts k) x y).toNat < n := by
  obtain ⟨h1, h2⟩ := h k hk
  have := h1.bd (x := x) (y := y) (by omega) (by omega)
  omega
theorem TabsOk.one {t : List (List Int)} (h : TableOk t) : TabsOk t.length [t] := fun k hk => by
  have : k = 0 := by simpa using hk
  subst this
  rw [tab_one]; exact ⟨h, rfl⟩
theorem TabsOk.two {t u : List (List Int)} (h : TableOk t) (h2 : TableOk u) (hl : u.length = t.length) : TabsOk t.length [t, u] := fun k hk => by
  have : k = 0 ∨ k = 1 := by have := hk; simp at this; omega
  rcases this with rfl | rfl
  · rw [tab_two0]; exact ⟨h, rfl⟩
  · rw [tab_two1]; exact ⟨h2, hl⟩

/-- p renames the tables az to the tables bz -/
def IsoOk (n : Nat) (az bz : List (List (List Int))) (p : List Int) : Prop :=
  p.length = n ∧ PermOk p ∧ ∀ k, k < az.length → ∀ x, x < n → ∀ y, y < n → ix p (ent (tab az k) x y).toNat = ent (tab bz k) (ix p x).toNat (ix p y).toNat
theorem IsoOk.bd {n : Nat} {az bz : List (List (List Int))} {p : List Int} (h : IsoOk n az bz p) {x : Nat} (hx : x < n) : 0 ≤ ix p x ∧ (ix p x).toNat < n := by
  obtain ⟨h1, ⟨h2, _⟩, _⟩ := h
  have := h2 x (by omega)
  omega
theorem IsoOk.inj {n : Nat} {az bz : List (List (List Int))} {p : List Int} (h : IsoOk n az bz p) {x y : Nat} (hx : x < n) (hy : y < n) (e : ix p x = ix p y) : x = y := by
  obtain ⟨h1, ⟨_, h2⟩, _⟩ := h
  rcases Nat.lt_trichotomy x y with g | g | g
  · exact absurd e (h2 y (by omega) x g)
  · exact g
  · exact absurd e.symm (h2 x (by omega) y g)
theorem IsoOk.surj {n : Nat} {az bz : List (List (List Int))} {p : List Int} (h : IsoOk n az bz p) {y : Nat} (hy : y < n) : ∃ x, x < n ∧ ix p x = (y : Int) := by
  obtain ⟨h1, h2, _⟩ := h
  have := (permOk_iff_has p).1 h2 y (by omega)
  rcases indexOf_spec p y with ⟨e, _⟩ | ⟨i, hi, _, e, _⟩
  · omega
  · exact ⟨i, by omega, e⟩

/-- all lists of m numbers below n, in lexicographic order -/
def allL (n : Nat) : Nat → List (List Int)
  | 0 => [[]]
  | m + 1 => (intRange n).flatMap fun v => (allL n m).map (v :: ·)
theorem mem_allL (n : Nat) : ∀ (m : Nat) (p : List Int), p ∈ allL n m ↔ p.length = m ∧ ∀ i, i < m → 0 ≤ ix p i ∧ ix p i < n
  | 0, p => by
    unfold allL
    rw [List.mem_singleton]
    constructor
    · rintro rfl; exact ⟨rfl, fun i hi => by omega⟩
    · rintro ⟨h, _⟩; exact List.length_eq_zero_iff.1 h
  | m + 1, p => by
    unfold allL
    rw [List.mem_flatMap]
    constructor
    · rintro ⟨v, hv, hp⟩
      rw [List.mem_map] at hp
      obtain ⟨q, hq, rfl⟩ := hp
      obtain ⟨h1, h2⟩ := (mem_allL n m q).1 hq
      refine ⟨by simp [h1], fun i hi => ?_⟩
      cases i with
      | zero => rw [ix_eq]; simpa using mem_intRange.1 hv
      | succ i =>
        have := h2 i (by omega)
        rw [ix_eq] at this ⊢
        simpa using this
    · rintro ⟨h1, h2⟩
      cases p with
      | nil => simp at h1
      | cons v q =>
        refine ⟨v, ?_, ?_⟩
        · have := h2 0 (by omega)
          rw [ix_eq] at this
          exact mem_intRange.2 (by simpa using this)
        · rw [List.mem_map]
          refine ⟨q, (mem_allL n m q).2 ⟨by simpa using h1, fun i hi => ?_⟩, rfl⟩
          have := h2 (i + 1) (by omega)
          rw [ix_eq] at this ⊢
          simpa using this
/-- p stands ahead of q -/
def LexLt (p q : List Int) : Prop := ∃ d, (∀ i, i < d → ix p i = ix q i) ∧ ix p d < ix q d
theorem sorted_allL (n : Nat) : ∀ m, (allL n m).Pairwise LexLt
  | 0 => by unfold allL; exact List.pairwise_singleton _ _
  | m + 1 => by
    unfold allL
    rw [List.pairwise_flatMap]
    refine ⟨fun v _ => ?_, ?_⟩
    · rw [List.pairwise_map]
      refine (sorted_allL n m).imp ?_
      rintro p q ⟨d, h1, h2⟩
      refine ⟨d + 1, fun i hi => ?_, ?_⟩
      · cases i with
        | zero => rw [ix_eq, ix_eq]; rfl
        | succ i =>
          have := h1 i (by omega)
          rw [ix_eq, ix_eq] at this ⊢
          simpa using this
      · rw [ix_eq, ix_eq] at h2 ⊢
        simpa using h2
    · unfold intRange
      rw [List.pairwise_map]
      refine List.pairwise_lt_range.imp ?_
      intro a b hab x hx y hy
      rw [List.mem_map] at hx hy
      obtain ⟨p, _, rfl⟩ := hx
      obtain ⟨q, _, rfl⟩ := hy
      refine ⟨0, fun i hi => by omega, ?_⟩
      rw [ix_eq, ix_eq]
      simpa using hab

open Classical in
/-- all isomorphisms in lexicographic order -/
@[irreducible] noncomputable def isoL (n : Nat) (az bz : List (List (List Int))) : List (List Int) := (allL n n).filter fun p => decide (IsoOk n az bz p)
theorem mem_isoL {n : Nat} {az bz : List (List (List Int))} {p : List Int} : p ∈ isoL n az bz ↔ IsoOk n az bz p := by
  unfold isoL
  rw [List.mem_filter, mem_allL]
  constructor
  · rintro ⟨_, h⟩; simpa using h
  · intro h
    refine ⟨⟨h.1, fun i hi => ?_⟩, by simpa using h⟩
    have := h.bd hi
    omega
theorem sorted_isoL (n : Nat) (az bz : List (List (List Int))) : (isoL n az bz).Pairwise LexLt := by
  unfold isoL
  exact (sorted_allL n n).filter _

/-- p goes on with f, where f is set -/
def ExtP (f p : List Int) : Prop := ∀ i, i < f.length → 0 ≤ ix f i → ix p i = ix f i
open Classical in
/-- the isomorphisms that go on with f -/
@[irreducible] noncomputable def extL (n : Nat) (az bz : List (List (List Int))) (f : List Int) : List (List Int) := (isoL n az bz).filter fun p => decide (ExtP f p)
theorem mem_extL {n : Nat} {az bz : List (List (List Int))} {f p : List Int} : p ∈ extL n az bz f ↔ IsoOk n az bz p ∧ ExtP f p := by
  unfold extL
  rw [List.mem_filter, mem_isoL]
  simp
theorem sorted_extL (n : Nat) (az bz : List (List (List Int))) (f : List Int) : (extL n az bz f).Pairwise LexLt := by
  unfold extL
  exact (sorted_isoL n az bz).filter _
theorem extL_congr {n : Nat} {az bz : List (List (List Int))} {f g : List Int} (h : ∀ p, IsoOk n az bz p → (ExtP f p ↔ ExtP g p)) : extL n az bz f = extL n az bz g := by
  unfold extL
  refine List.filter_congr fun p hp => ?_
  have := h p (mem_isoL.1 hp)
  simp [this]
theorem extL_nil {n : Nat} {az bz : List (List (List Int))} {f : List Int} (h : ∀ p, IsoOk n az bz p → ¬ ExtP f p) : extL n az bz f = [] := by
  rw [List.eq_nil_iff_forall_not_mem]
  intro p hp
  obtain ⟨h1, h2⟩ := mem_extL.1 hp
  exact h p h1 h2
theorem extL_all {n : Nat} {az bz : List (List (List Int))} {f : List Int} (h : ∀ p, IsoOk n az bz p → ExtP f p) : extL n az bz f = isoL n az bz := by
  unfold extL
  rw [List.filter_eq_self]
  intro p hp
  have := h p (mem_isoL.1 hp)
  simpa using this
theorem LexLt.irrefl (p : List Int) : ¬ LexLt p p := by
  rintro ⟨d, _, h⟩; omega
theorem nodup_extL (n : Nat) (az bz : List (List (List Int))) (f : List Int) : (extL n az bz f).Nodup := by
  rw [List.nodup_iff_pairwise_ne]
  refine (sorted_extL n az bz f).imp ?_
  intro a b h e
  subst e
  exact h.irrefl
/-- a whole map -/
theorem extL_one {n : Nat} {az bz : List (List (List Int))} {f : List Int} (h : IsoOk n az bz f) : extL n az bz f = [f] := by
  have hm : f ∈ extL n az bz f := mem_extL.2 ⟨h, fun _ _ _ => rfl⟩
  have hu : ∀ p, p ∈ extL n az bz f → p = f := fun p hp => by
    obtain ⟨h1, h2⟩ := mem_extL.1 hp
    refine ix_ext (by rw [h1.1, h.1]) fun i hi => h2 i (by rw [h.1, ← h1.1]; exact hi) (h.bd (by rw [← h1.1]; exact hi)).1
  have hn := nodup_extL n az bz f
  generalize extL n az bz f = L at hm hu hn
  rcases L with _ | ⟨x, _ | ⟨y, r⟩⟩
  · simp at hm
  · rw [hu x (by simp)]
  · have e1 := hu x (by simp)
    have e2 := hu y (by simp)
    rw [e1, e2] at hn
    simp at hn

/-- those that lead x below k -/
@[irreducible] def below (M : List (List Int)) (x k : Nat) : List (List Int) := M.filter fun p => decide (ix p x < (k : Int))
theorem below_zero {M : List (List Int)} {x : Nat} (h : ∀ p, p ∈ M → 0 ≤ ix p x) : below M x 0 = [] := by
  unfold below
  rw [List.filter_eq_nil_iff]
  intro p hp
  have := h p hp
  simp; omega
theorem below_all {M : List (List Int)} {x n : Nat} (h : ∀ p, p ∈ M → ix p x < (n : Int)) : below M x n = M := by
  unfold below
  rw [List.filter_eq_self]
  intro p hp
  have := h p hp
  simpa using this
theorem below_succ {M : List (List Int)} {x : Nat} (k : Nat) (h : M.Pairwise fun p q => ix p x ≤ ix q x) : below M x (k + 1) = below M x k ++ M.filter fun p => decide (ix p x = (k : Int)) := by
  unfold below
  induction M with
  | nil => rfl
  | cons a M ih =>
    rw [List.pairwise_cons] at h
    have ih := ih h.2
    rcases Int.lt_trichotomy (ix a x) (k : Int) with g | g | g
    · rw [List.filter_cons_of_pos (by simp; omega), List.filter_cons_of_pos (by simpa using g), List.filter_cons_of_neg (by simp; omega), ih]; rfl
    · rw [List.filter_cons_of_pos (by simp; omega), List.filter_cons_of_neg (by simp; omega), List.filter_cons_of_pos (by simpa using g), ih]
      have : M.filter (fun p => decide (ix p x < (k : Int))) = [] := by
        rw [List.filter_eq_nil_iff]
        intro p hp
        have := h.1 p hp
        simp; omega
      rw [this]; rfl
    · have e1 : M.filter (fun p => decide (ix p x < ((k + 1 : Nat) : Int))) = [] := by
        rw [List.filter_eq_nil_iff]
        intro p hp
        have := h.1 p hp
        simp; omega
      rw [e1] at ih
      rw [List.filter_cons_of_neg (by simp; omega), List.filter_cons_of_neg (by simp; omega), List.filter_cons_of_neg (by simp; omega), e1, ← ih]
/-- all that go on with f agree ahead of x, so they stand in the order of their values at x -/
theorem extL_le {n : Nat} {az bz : List (List (List Int))} {f : List Int} {x : Nat} (hx : x ≤ f.length) (hf : ∀ i, i < x → 0 ≤ ix f i) : (extL n az bz f).Pairwise fun p q => ix p x ≤ ix q x := by
  have h := sorted_extL n az bz f
  rw [List.pairwise_iff_forall_sublist] at h ⊢
  intro p q hs
  obtain ⟨d, h1, h2⟩ := h hs
  have hp := (mem_extL.1 (hs.subset (show p ∈ [p, q] by simp))).2
  have hq := (mem_extL.1 (hs.subset (show q ∈ [p, q] by simp))).2
  rcases Nat.lt_trichotomy d x with g | g | g
  · have a1 := hp d (by omega) (hf d g)
    have a2 := hq d (by omega) (hf d g)
    omega
  · subst g; omega
  · have := h1 x g
    omega
theorem extL_at {n : Nat} {az bz : List (List (List Int))} {f g : List Int} {x : Nat} {v : Int} (h : ∀ p, IsoOk n az bz p → ((ExtP f p ∧ ix p x = v) ↔ ExtP g p)) : ((extL n az bz f).filter fun p => decide (ix p x = v)) = extL n az bz g := by
  unfold extL
  rw [List.filter_filter]
  refine List.filter_congr fun p hp => ?_
  have := h p (mem_isoL.1 hp)
  by_cases hg : ExtP g p
  · have := this.2 hg; simp [hg, this.1, this.2]
  · by_cases h1 : ix p x = v
    · have : ¬ ExtP f p := fun hf => hg (this.1 ⟨hf, h1⟩)
      simp [hg, h1, this]
    · simp [hg, h1]
theorem ix_app {f g : List Int} {i : Nat} (h : i < f.length) : ix (f ++ g) i = ix f i := by
  rw [ix_eq, ix_eq]; simp [List.getD, List.getElem?_append_left h]
theorem ix_snoc (f : List Int) (v : Int) : ix (f ++ [v]) f.length = v := by rw [ix_eq]; simp
theorem extP_snoc {f p : List Int} {v : Int} (hv : 0 ≤ v) : (ExtP f p ∧ ix p f.length = v) ↔ ExtP (f ++ [v]) p := by
  constructor
  · rintro ⟨h1, h2⟩ i hi h0
    rcases Nat.lt_or_ge i f.length with g | g
    · rw [ix_app g] at h0 ⊢
      exact h1 i g h0
    · have : i = f.length := by simp at hi; omega
      subst this
      rw [h2, ix_snoc]
  · intro h
    refine ⟨fun i hi h0 => ?_, ?_⟩
    · have e : ix (f ++ [v]) i = ix f i := ix_app hi
      have := h i (by simp; omega) (by rw [e]; exact h0)
      rw [this, e]
    · have e : ix (f ++ [v]) f.length = v := ix_snoc _ _
      have := h f.length (by simp) (by rw [e]; exact hv)
      rw [this, e]
end Go.Proofs.Ytjhfieegkgndfaa

/-
  Partial maps between lists of tables, element by element: plain.
-/
namespace Go.Proofs.Ytjhfieegkgndfaa
set_option linter.unusedVariables false
set_option linter.unusedSimpArgs false

/-- f' goes on with f -/
def Goes (n : Nat) (f f' : List Int) : Prop := f'.length = n ∧ ∀ i, i < n → 0 ≤ ix f i → ix f' i = ix f i
theorem Goes.refl {n : Nat} {f : List Int} (h : f.length = n) : Goes n f f := ⟨h, fun _ _ _ => rfl⟩
theorem Goes.trans {n : Nat} {f g h : List Int} (a : Goes n f g) (b : Goes n g h) : Goes n f h := ⟨b.1, fun i hi h0 => by
  have e := a.2 i hi h0
  rw [b.2 i hi (by omega), e]⟩
/-- x and y are mapped, and so are their values, as the tables say -/
def Good (az bz : List (List (List Int))) (f : List Int) (x y : Nat) : Prop :=
  ∀ k, k < az.length → 0 ≤ ix f (ent (tab az k) x y).toNat ∧ ix f (ent (tab az k) x y).toNat = ent (tab bz k) (ix f x).toNat (ix f y).toNat
theorem Good.goes {n : Nat} {az bz : List (List (List Int))} {f g : List Int} {x y : Nat} (hA : TabsOk n az) (h : Good az bz f x y) (hg : Goes n f g) (hx : x < n) (hy : y < n) (fx : 0 ≤ ix f x) (fy : 0 ≤ ix f y) : Good az bz g x y := fun k hk => by
  obtain ⟨h1, h2⟩ := h k hk
  have hb := hA.bd hk hx hy
  have e := hg.2 _ hb.2 h1
  rw [e, hg.2 x hx fx, hg.2 y hy fy]
  exact ⟨h1, h2⟩
/-- f is a partial map; s its elements in the order of their mapping -/
structure PartOk (n : Nat) (f s : List Int) : Prop where
  len : f.length = n
  rng : ∀ x, x < n → -1 ≤ ix f x ∧ ix f x < (n : Int)
  inj : ∀ x, x < n → ∀ y, y < n → 0 ≤ ix f x → ix f x = ix f y → x = y
  mem : ∀ x : Nat, x < n → ((x : Int) ∈ s ↔ 0 ≤ ix f x)
  bd : ∀ i, i < s.length → 0 ≤ ix s i ∧ (ix s i).toNat < n
  nodup : s.Nodup
/-- all of s are good with all of s -/
def GoodAll (az bz : List (List (List Int))) (n : Nat) (f : List Int) : Prop := ∀ x, x < n → ∀ y, y < n → 0 ≤ ix f x → 0 ≤ ix f y → Good az bz f x y
theorem iso_of_good {n : Nat} {az bz : List (List (List Int))} {f s : List Int} (h : PartOk n f s) (hall : ∀ x, x < n → 0 ≤ ix f x) (hg : GoodAll az bz n f) : IsoOk n az bz f :=
  ⟨h.len, ⟨fun i hi => by
      have := h.rng i (by have := h.len; omega)
      have := hall i (by have := h.len; omega)
      have := h.len
      omega, fun i hi j hj e => by
      have := h.len
      have := h.inj j (by omega) i (by omega) (hall j (by omega)) e
      omega⟩, fun k hk x hx y hy => (hg x hx y hy (hall x hx) (hall y hy) k hk).2⟩
theorem ix_set_same (f : List Int) (x : Nat) (v : Int) (h : x < f.length) : ix (f.set x v) x = v := by
  rw [ix_eq]; simp [List.getD, h]
theorem ix_set_other (f : List Int) (x i : Nat) (v : Int) (h : i ≠ x) : ix (f.set x v) i = ix f i := by
  rw [ix_eq, ix_eq]; simp [List.getD, List.getElem?_set_ne (Ne.symm h)]
/-- x is new -/
theorem extP_set {f p : List Int} {x : Nat} {v : Int} (hx : x < f.length) (hf : ix f x < 0) (hv : 0 ≤ v) : (ExtP f p ∧ ix p x = v) ↔ ExtP (f.set x v) p := by
  constructor
  · rintro ⟨h1, h2⟩ i hi h0
    rw [List.length_set] at hi
    by_cases e : i = x
    · subst e; rw [ix_set_same _ _ _ hi]; exact h2
    · rw [ix_set_other _ _ _ _ e] at h0 ⊢
      exact h1 i hi h0
  · intro h
    refine ⟨fun i hi h0 => ?_, ?_⟩
    · have e : i ≠ x := fun e => by subst e; omega
      have := h i (by rw [List.length_set]; exact hi) (by rw [ix_set_other _ _ _ _ e]; exact h0)
      rw [this, ix_set_other _ _ _ _ e]
    · have e := ix_set_same f x v hx
      rw [h x (by rw [List.length_set]; exact hx) (by rw [e]; exact hv), e]
theorem goes_set {n : Nat} {f : List Int} {x : Nat} {v : Int} (hl : f.length = n) (hf : ix f x < 0) : Goes n f (f.set x v) :=
  ⟨by rw [List.length_set]; exact hl, fun i _ h0 => ix_set_other _ _ _ _ (fun e => by subst e; omega)⟩
theorem mem_snoc_iff {s : List Int} {a b : Int} : a ∈ s ++ [b] ↔ a ∈ s ∨ a = b := by simp
theorem PartOk.set {n : Nat} {f s : List Int} {x v : Nat} (h : PartOk n f s) (hx : x < n) (hv : v < n) (hf : ix f x < 0) (hu : ∀ y, y < n → ix f y ≠ (v : Int)) : PartOk n (f.set x (v : Int)) (s ++ [(x : Int)]) where
  len := by rw [List.length_set]; exact h.len
  rng y hy := by
    by_cases e : y = x
    · subst e; rw [ix_set_same _ _ _ (by rw [h.len]; exact hy)]; omega
    · rw [ix_set_other _ _ _ _ e]; exact h.rng y hy
  inj y hy z hz h0 e := by
    have hxl : x < f.length := by rw [h.len]; exact hx
    by_cases ey : y = x
    · subst ey
      by_cases ez : z = y
      · exact ez.symm
      · rw [ix_set_same _ _ _ hxl, ix_set_other _ _ _ _ ez] at e
        exact absurd e.symm (hu z hz)
    · by_cases ez : z = x
      · subst ez
        rw [ix_set_same _ _ _ hxl, ix_set_other _ _ _ _ ey] at e
        exact absurd e (hu y hy)
      · rw [ix_set_other _ _ _ _ ey] at h0
        rw [ix_set_other _ _ _ _ ey, ix_set_other _ _ _ _ ez] at e
        exact h.inj y hy z hz h0 e
  mem y hy := by
    have hxl : x < f.length := by rw [h.len]; exact hx
    rw [mem_snoc_iff, h.mem y hy]
    by_cases e : y = x
    · subst e; rw [ix_set_same _ _ _ hxl]; constructor
      · intro _; omega
      · intro _; exact .inr rfl
    · rw [ix_set_other _ _ _ _ e]; constructor
      · rintro (h1 | h1)
        · exact h1
        · exact absurd (Int.ofNat.inj h1) e
      · exact .inl
  bd i hi := by
    by_cases e : i < s.length
    · rw [ix_app e]; exact h.bd i e
    · have : i = s.length := by simp at hi; omega
      subst this
      rw [ix_snoc]; omega
  nodup := by
    rw [List.nodup_append]
    refine ⟨h.nodup, by simp, fun a ha b hb e => ?_⟩
    have : b = (x : Int) := by simpa using hb
    subst this; subst e
    have := (h.mem x hx).1 ha
    omega
/-- where v is used, nothing new goes there -/
theorem used_no {n : Nat} {az bz : List (List (List Int))} {f p : List Int} {x y : Nat} {v : Int} (hl : f.length = n) (hp : IsoOk n az bz p) (he : ExtP f p) (hx : x < n) (hy : y < n) (hf : ix f x < 0) (hv : 0 ≤ v) (e : ix f y = v) : ix p x ≠ v := fun h => by
  have h1 := he y (by omega) (by omega)
  have := hp.inj hx hy (by omega)
  subst this
  omega
/-- what follows -/
theorem ext_follows {n : Nat} {az bz : List (List (List Int))} {f p : List Int} {x y k : Nat} (hl : f.length = n) (hp : IsoOk n az bz p) (he : ExtP f p) (hx : x < n) (hy : y < n) (fx : 0 ≤ ix f x) (fy : 0 ≤ ix f y) (hk : k < az.length) : ix p (ent (tab az k) x y).toNat = ent (tab bz k) (ix f x).toNat (ix f y).toNat := by
  rw [hp.2.2 k hk x hx y hy, he x (by omega) fx, he y (by omega) fy]
end Go.Proofs.Ytjhfieegkgndfaa

/-
  Marks of elements, their order, and what isomorphisms keep: plain.
-/
namespace Go.Proofs.Ytjhfieegkgndfaa
set_option linter.unusedVariables false
set_option linter.unusedSimpArgs false

/-! ### the order of lists -/
/-- l stands ahead of m -/
@[irreducible] def lessB (l m : List Int) : Bool := decide (l < m)
theorem lessB_iff {l m : List Int} : lessB l m = true ↔ l < m := by unfold lessB; simp
theorem lessB_no {l m : List Int} : lessB l m = false ↔ ¬ l < m := by unfold lessB; simp
theorem lessB_at (l m : List Int) (i : Nat) (hl : i < l.length) (hm : i < m.length) : lessB (l.drop i) (m.drop i) = if ix l i = ix m i then lessB (l.drop (i + 1)) (m.drop (i + 1)) else decide (ix l i < ix m i) := by
  rw [drop_cons l i hl, drop_cons m i hm]
  unfold lessB
  by_cases h : ix l i = ix m i
  · rw [if_pos h]
    simp [List.cons_lt_cons_iff, h]
  · rw [if_neg h]
    simp [List.cons_lt_cons_iff, h]
theorem lessB_end (l m : List Int) (i : Nat) (hl : i ≤ l.length) (hm : i ≤ m.length) (h : ¬ (i < l.length ∧ i < m.length)) : lessB (l.drop i) (m.drop i) = decide (l.length < m.length) := by
  unfold lessB
  by_cases h1 : i < l.length
  · have : m.drop i = [] := List.drop_of_length_le (by omega)
    rw [this]
    have h2 : ¬ l.length < m.length := by omega
    simp [h2]
  · have : l.drop i = [] := List.drop_of_length_le (by omega)
    rw [this]
    by_cases h2 : i < m.length
    · rw [drop_cons m i h2]
      have h3 : l.length < m.length := by omega
      simp [h3]
    · have : m.drop i = [] := List.drop_of_length_le (by omega)
      rw [this]
      have h3 : ¬ l.length < m.length := by omega
      simp [h3]
theorem less_irrefl (l : List Int) : ¬ l < l := List.lt_irrefl l
theorem less_trans {a b c : List Int} (h : a < b) (k : b < c) : a < c := List.lt_trans h k
theorem less_tri : ∀ (a b : List Int), a < b ∨ a = b ∨ b < a
  | [], [] => .inr (.inl rfl)
  | [], _ :: _ => .inl (by simp)
  | _ :: _, [] => .inr (.inr (by simp))
  | x :: r, y :: s => by
    rcases Int.lt_trichotomy x y with g | g | g
    · exact .inl (List.cons_lt_cons_iff.2 (.inl g))
    · subst g
      rcases less_tri r s with h | h | h
      · exact .inl (List.cons_lt_cons_iff.2 (.inr ⟨rfl, h⟩))
      · exact .inr (.inl (by rw [h]))
      · exact .inr (.inr (List.cons_lt_cons_iff.2 (.inr ⟨rfl, h⟩)))
    · exact .inr (.inr (List.cons_lt_cons_iff.2 (.inl g)))

/-! ### sorted lists -/
theorem sorted_unique : ∀ {l m : List Int}, l.Pairwise (· ≤ ·) → m.Pairwise (· ≤ ·) → l.Perm m → l = m
  | [], m, _, _, h => (List.Perm.nil_eq h)
  | x :: r, [], _, _, h => by have := h.length_eq; simp at this
  | x :: r, y :: s, h1, h2, h => by
    rw [List.pairwise_cons] at h1 h2
    have hx : x ∈ y :: s := (h.mem_iff).1 (by simp)
    have hy : y ∈ x :: r := (h.mem_iff).2 (by simp)
    have e : x = y := by
      have a : y ≤ x := by
        rcases List.mem_cons.1 hx with e | e
        · omega
        · exact h2.1 x e
      have b : x ≤ y := by
        rcases List.mem_cons.1 hy with e | e
        · omega
        · exact h1.1 y e
      omega
    subst e
    rw [sorted_unique h1.2 h2.2 ((List.perm_cons x).1 h)]
/-- the numbers of l in ascending order -/
@[irreducible] def sortI (l : List Int) : List Int := l.mergeSort (fun a b => decide (a ≤ b))
theorem sortI_perm (l : List Int) : (sortI l).Perm l := by unfold sortI; exact List.mergeSort_perm l _
theorem sortI_sorted (l : List Int) : (sortI l).Pairwise (· ≤ ·) := by
  unfold sortI
  have := List.pairwise_mergeSort (le := fun (a b : Int) => decide (a ≤ b)) (fun a b c h1 h2 => by simp at *; omega) (fun a b => by simp; omega) l
  exact this.imp (fun h => by simpa using h)
theorem sortI_eq {l r : List Int} (hp : r.Perm l) (hs : r.Pairwise (· ≤ ·)) : r = sortI l :=
  sorted_unique hs (sortI_sorted l) (hp.trans (sortI_perm l).symm)
theorem sortI_congr {l m : List Int} (h : l.Perm m) : sortI l = sortI m := sortI_eq ((sortI_perm l).trans h) (sortI_sorted l)
theorem length_sortI (l : List Int) : (sortI l).length = l.length := (sortI_perm l).length_eq

/-! ### marks -/
@[irreducible] def ownN (u v x y : Int) : Int := (if u = y then 1 else 0) + (if v = y then 2 else 0) + (if u = x then 4 else 0) + (if v = x then 8 else 0)
theorem ownN_bd (u v x y : Int) : 0 ≤ ownN u v x y ∧ ownN u v x y ≤ 15 := by
  unfold ownN
  split <;> split <;> split <;> split <;> omega
/-- what an element tells of another one -/
@[irreducible] def ent1 (ts : List (List (List Int))) (c : List Int) (k x y : Nat) : Int :=
  ((ix c y * 64 + ix c (ent (tab ts k) x y).toNat) * 64 + ix c (ent (tab ts k) y x).toNat) * 16 + ownN (ent (tab ts k) x y) (ent (tab ts k) y x) x y
/-- how often x stands among the first m of row y -/
@[irreducible] def cntN (ts : List (List (List Int))) (k x y m : Nat) : Nat := (List.range m).countP fun z => decide (ent (tab ts k) y z = (x : Int))
theorem cntN_zero (ts : List (List (List Int))) (k x y : Nat) : cntN ts k x y 0 = 0 := by unfold cntN; simp
theorem cntN_succ (ts : List (List (List Int))) (k x y m : Nat) : cntN ts k x y (m + 1) = cntN ts k x y m + (if ent (tab ts k) y m = (x : Int) then 1 else 0) := by
  unfold cntN
  rw [List.range_succ, List.countP_append]
  congr 1
  by_cases h : ent (tab ts k) y m = (x : Int) <;> simp [h]
theorem cntN_le (ts : List (List (List Int))) (k x y m : Nat) : cntN ts k x y m ≤ m := by
  unfold cntN
  have := List.countP_le_length (p := fun z => decide (ent (tab ts k) y z = (x : Int))) (l := List.range m)
  simpa using this
@[irreducible] def ent2 (ts : List (List (List Int))) (c : List Int) (n k x y : Nat) : Int := 1099511627776 + ix c y * 64 + (cntN ts k x y n : Nat)
/-- what one table tells -/
@[irreducible] def entL (ts : List (List (List Int))) (c : List Int) (n k x : Nat) : List Int := mkL n (ent1 ts c k x) ++ mkL n (ent2 ts c n k x)
theorem length_entL (ts : List (List (List Int))) (c : List Int) (n k x : Nat) : (entL ts c n k x).length = 2 * n := by
  unfold entL; rw [List.length_append, length_mkL, length_mkL]; omega
/-- the mark of an element, by the first K tables -/
def markL (ts : List (List (List Int))) (c : List Int) (n x : Nat) : Nat → List Int
  | 0 => [ix c x]
  | K + 1 => markL ts c n x K ++ sortI (entL ts c n K x)
theorem length_markL (ts : List (List (List Int))) (c : List Int) (n x : Nat) : ∀ K, (markL ts c n x K).length = 1 + K * (2 * n)
  | 0 => by simp [markL]
  | K + 1 => by
    unfold markL
    rw [List.length_append, length_markL ts c n x K, length_sortI, length_entL]
    have : (K + 1) * (2 * n) = K * (2 * n) + 2 * n := Nat.succ_mul _ _
    omega
theorem markL_head (ts : List (List (List Int))) (c : List Int) (n x : Nat) : ∀ K, ix (markL ts c n x K) 0 = ix c x
  | 0 => by unfold markL; rw [ix_eq]; rfl
  | K + 1 => by
    unfold markL
    rw [ix_app (by rw [length_markL]; omega)]
    exact markL_head ts c n x K

/-! ### what isomorphisms keep -/
/-- p leads colours c to colours d -/
def Resp (n : Nat) (c d p : List Int) : Prop := ∀ x, x < n → ix c x = ix d (ix p x).toNat
theorem perm_range {n : Nat} {p : List Int} (hl : p.length = n) (hp : PermOk p) : ((List.range n).map fun i => (ix p i).toNat).Perm (List.range n) := by
  have hnd : ((List.range n).map fun i => (ix p i).toNat).Nodup := by
    rw [List.nodup_iff_pairwise_ne, List.pairwise_map]
    refine List.Pairwise.imp_of_mem (R := (· < ·)) ?_ List.pairwise_lt_range
    intro a b ha hb hab e
    rw [List.mem_range] at ha hb
    have h1 := hp.1 a (by omega)
    have h2 := hp.1 b (by omega)
    exact hp.2 b (by omega) a hab (by omega)
  rw [List.perm_ext_iff_of_nodup hnd List.nodup_range]
  intro y
  rw [List.mem_map, List.mem_range]
  constructor
  · rintro ⟨i, hi, rfl⟩
    rw [List.mem_range] at hi
    have := hp.1 i (by omega)
    omega
  · intro hy
    have := (permOk_iff_has p).1 hp y (by omega)
    rcases indexOf_spec p y with ⟨e, _⟩ | ⟨i, hi, _, e, _⟩
    · omega
    · exact ⟨i, by rw [List.mem_range]; omega, by omega⟩
theorem mkL_perm {n : Nat} {p : List Int} (hl : p.length = n) (hp : PermOk p) {f g : Nat → Int} (h : ∀ y, y < n → f y = g (ix p y).toNat) : (mkL n f).Perm (mkL n g) := by
  have e : mkL n f = ((List.range n).map fun i => (ix p i).toNat).map g := by
    unfold mkL
    rw [List.map_map]
    refine List.map_congr_left fun y hy => ?_
    rw [List.mem_range] at hy
    exact h y hy
  rw [e]
  unfold mkL
  exact (perm_range hl hp).map g
theorem cnt_iso {n : Nat} {az bz : List (List (List Int))} {p : List Int} (hA : TabsOk n az) (h : IsoOk n az bz p) {k : Nat} (hk : k < az.length) {x y : Nat} (hx : x < n) (hy : y < n) :
    cntN az k x y n = cntN bz k (ix p x).toNat (ix p y).toNat n := by
  have hr := perm_range h.1 h.2.1
  have e : cntN bz k (ix p x).toNat (ix p y).toNat n = ((List.range n).map fun i => (ix p i).toNat).countP fun z => decide (ent (tab bz k) (ix p y).toNat z = (((ix p x).toNat : Nat) : Int)) := by
    unfold cntN; exact (hr.countP_eq _).symm
  rw [e, List.countP_map]
  unfold cntN
  refine List.countP_congr fun z hz => ?_
  rw [List.mem_range] at hz
  have h1 := h.2.2 k hk y hy z hz
  have hb := hA.bd hk hy hz
  have hpx := h.bd hx
  simp only [Function.comp, decide_eq_true_eq]
  rw [← h1, Int.toNat_of_nonneg hpx.1]
  constructor
  · intro e; rw [e, Int.toNat_natCast]
  · intro e
    have := h.inj hb.2 hx e
    omega
theorem ent1_iso {n : Nat} {az bz : List (List (List Int))} {c d p : List Int} (hA : TabsOk n az) (h : IsoOk n az bz p) (hr : Resp n c d p) {k : Nat} (hk : k < az.length) {x y : Nat} (hx : x < n) (hy : y < n) :
    ent1 az c k x y = ent1 bz d k (ix p x).toNat (ix p y).toNat := by
  have h1 := h.2.2 k hk x hx y hy
  have h2 := h.2.2 k hk y hy x hx
  have b1 := hA.bd hk hx hy
  have b2 := hA.bd hk hy hx
  have px := h.bd hx
  have py := h.bd hy
  have pu := h.bd b1.2
  have pv := h.bd b2.2
  unfold ent1
  rw [← h1, ← h2, hr y hy, hr _ b1.2, hr _ b2.2]
  congr 1
  unfold ownN
  have key : ∀ {a b : Nat} {u : Int}, 0 ≤ u → u.toNat < n → b < n → (u = (b : Int) ↔ ix p u.toNat = (((ix p b).toNat : Nat) : Int)) := by
    intro a b u hu hun hb
    have pb := h.bd hb
    rw [Int.toNat_of_nonneg pb.1]
    constructor
    · intro e; rw [e, Int.toNat_natCast]
    · intro e
      have := h.inj hun hb e
      omega
  simp only [key (a := 0) b1.1 b1.2 hy, key (a := 0) b2.1 b2.2 hy, key (a := 0) b1.1 b1.2 hx, key (a := 0) b2.1 b2.2 hx]
theorem entL_iso {n : Nat} {az bz : List (List (List Int))} {c d p : List Int} (hA : TabsOk n az) (h : IsoOk n az bz p) (hr : Resp n c d p) {k : Nat} (hk : k < az.length) {x : Nat} (hx : x < n) :
    (entL az c n k x).Perm (entL bz d n k (ix p x).toNat) := by
  unfold entL
  refine List.Perm.append (mkL_perm h.1 h.2.1 fun y hy => ent1_iso hA h hr hk hx hy) (mkL_perm h.1 h.2.1 fun y hy => ?_)
  unfold ent2
  rw [hr y hy, cnt_iso hA h hk hx hy]
theorem markL_iso {n : Nat} {az bz : List (List (List Int))} {c d p : List Int} (hA : TabsOk n az) (h : IsoOk n az bz p) (hr : Resp n c d p) {x : Nat} (hx : x < n) :
    ∀ K, K ≤ az.length → markL az c n x K = markL bz d n (ix p x).toNat K
  | 0, _ => by unfold markL; rw [hr x hx]
  | K + 1, hK => by
    unfold markL
    rw [markL_iso hA h hr hx K (by omega), sortI_congr (entL_iso hA h hr (by omega) hx)]

/-! ### the kinds of marks -/
theorem sub_len {α : Type} [DecidableEq α] : ∀ {a b : List α}, a.Nodup → (∀ x, x ∈ a → x ∈ b) → a.length ≤ b.length
  | [], b, _, _ => Nat.zero_le _
  | x :: r, b, hn, hs => by
    rw [List.nodup_cons] at hn
    have hx : x ∈ b := hs x (by simp)
    have := sub_len (a := r) (b := b.erase x) hn.2 (fun y hy => by
      have hne : y ≠ x := fun e => hn.1 (e ▸ hy)
      exact (List.mem_erase_of_ne hne).2 (hs y (by simp [hy])))
    rw [List.length_erase_of_mem hx] at this
    have := List.length_pos_of_mem hx
    simp; omega
/-- the different lists among marks, in order -/
def Kinds (M K : List (List Int)) : Prop := K.Pairwise (· < ·) ∧ (∀ m, m ∈ K → m ∈ M) ∧ (∀ m, m ∈ M → m ∈ K)
theorem Kinds.nil : Kinds [] [] := ⟨List.Pairwise.nil, fun _ h => h, fun _ h => h⟩
theorem Kinds.nodup {M K : List (List Int)} (h : Kinds M K) : K.Nodup := by
  rw [List.nodup_iff_pairwise_ne]
  refine h.1.imp ?_
  intro a b hab e
  subst e
  exact less_irrefl _ hab
theorem Kinds.le {M K : List (List Int)} (h : Kinds M K) : K.length ≤ M.length := sub_len h.nodup h.2.1
/-- what has been passed stands ahead; the mark is there -/
theorem Kinds.skip {M K : List (List Int)} (h : Kinds M K) {i : Nat} {m : List Int} (hi : i < K.length) (he : row K i = m) : Kinds (M ++ [m]) K := by
  refine ⟨h.1, fun x hx => List.mem_append_left _ (h.2.1 x hx), fun x hx => ?_⟩
  rcases List.mem_append.1 hx with g | g
  · exact h.2.2 x g
  · have : x = m := by simpa using g
    subst this
    rw [← he, row_eq]
    simp [List.getD, hi]
theorem Kinds.insert {M K : List (List Int)} (h : Kinds M K) {i : Nat} {m : List Int} (hi : i ≤ K.length) (h1 : ∀ j, j < i → row K j < m) (h2 : i < K.length → ¬ row K i < m ∧ row K i ≠ m) :
    Kinds (M ++ [m]) (K.take i ++ ([m] ++ K.drop i)) := by
  have hsplit : K = K.take i ++ K.drop i := (List.take_append_drop i K).symm
  have hp := h.1
  rw [hsplit, List.pairwise_append] at hp
  obtain ⟨p1, p2, p3⟩ := hp
  have ht : ∀ x, x ∈ K.take i → x < m := by
    intro x hx
    obtain ⟨j, hj, rfl⟩ := List.mem_iff_getElem.1 hx
    have hj' : j < i ∧ j < K.length := by rw [List.length_take] at hj; omega
    have := h1 j hj'.1
    rw [row_eq] at this
    simpa [List.getD, hj'.2] using this
  have hd : ∀ x, x ∈ K.drop i → m < x := by
    intro x hx
    have hlt : i < K.length := by
      apply Classical.byContradiction
      intro g
      rw [List.drop_of_length_le (by omega)] at hx
      simp at hx
    obtain ⟨a, b⟩ := h2 hlt
    have hm : m < row K i := by
      rcases less_tri (row K i) m with g | g | g
      · exact absurd g a
      · exact absurd g b
      · exact g
    rw [row_drop K i hlt] at hx p2
    rw [List.pairwise_cons] at p2
    rcases List.mem_cons.1 hx with g | g
    · rw [g]; exact hm
    · exact less_trans hm (p2.1 x g)
  refine ⟨?_, ?_, ?_⟩
  · rw [List.pairwise_append]
    refine ⟨p1, ?_, ?_⟩
    · rw [List.singleton_append, List.pairwise_cons]
      exact ⟨hd, p2⟩
    · intro x hx y hy
      rw [List.singleton_append] at hy
      rcases List.mem_cons.1 hy with g | g
      · rw [g]; exact ht x hx
      · exact p3 x hx y g
  · intro x hx
    rcases List.mem_append.1 hx with g | g
    · exact List.mem_append_left _ (h.2.1 x (List.mem_of_mem_take g))
    · rw [List.singleton_append] at g
      rcases List.mem_cons.1 g with g | g
      · exact List.mem_append_right _ (by simp [g])
      · exact List.mem_append_left _ (h.2.1 x (List.mem_of_mem_drop g))
  · intro x hx
    rcases List.mem_append.1 hx with g | g
    · have := h.2.2 x g
      rw [hsplit] at this
      rcases List.mem_append.1 this with g | g
      · exact List.mem_append_left _ g
      · exact List.mem_append_right _ (List.mem_append_right _ g)
    · have : x = m := by simpa using g
      exact List.mem_append_right _ (List.mem_append_left _ (by simp [this]))
/-- the first place of m in K -/
@[irreducible] def placeL (K : List (List Int)) (m : List Int) : Nat := K.findIdx (fun x => decide (x = m))
theorem placeL_lt {K : List (List Int)} {m : List Int} (h : m ∈ K) : placeL K m < K.length := by
  unfold placeL
  exact List.findIdx_lt_length_of_exists ⟨m, h, by simp⟩
theorem placeL_at {K : List (List Int)} {m : List Int} (h : m ∈ K) : row K (placeL K m) = m := by
  have hl := placeL_lt h
  rw [row_eq]
  unfold placeL at hl ⊢
  have := List.findIdx_getElem (w := hl)
  simp [List.getD, hl] at this ⊢
  exact this
theorem placeL_ahead {K : List (List Int)} {m : List Int} {j : Nat} (h : j < placeL K m) : row K j ≠ m := by
  intro e
  unfold placeL at h
  have h1 := List.not_of_lt_findIdx h
  rw [row_eq] at e
  have hj : j < K.length := Nat.lt_of_lt_of_le h (List.findIdx_le_length)
  simp [List.getD, hj] at e h1
  exact h1 e
/-- number colours were all in use; each mark begins with its element's former colour: at least as many kinds -/
theorem Kinds.more {M K : List (List Int)} (h : Kinds M K) {number : Nat} (hc : ∀ c : Nat, c < number → ∃ i, i < M.length ∧ ix (row M i) 0 = (c : Int)) : number ≤ K.length := by
  have := sub_len (a := intRange number) (b := K.map fun m => ix m 0) (nodup_intRange _) (fun x hx => by
    have hx' := mem_intRange.1 hx
    obtain ⟨i, hi, e⟩ := hc x.toNat (by omega)
    rw [List.mem_map]
    refine ⟨row M i, h.2.2 _ ?_, by omega⟩
    rw [row_eq]; simp [List.getD, hi])
  rw [length_intRange] at this
  simpa using this
/-- each kind is in use -/
theorem Kinds.used {M K : List (List Int)} (h : Kinds M K) {c : Nat} (hc : c < K.length) : ∃ i, i < M.length ∧ placeL K (row M i) = c := by
  have hm : row K c ∈ K := by rw [row_eq]; simp [List.getD, hc]
  obtain ⟨i, hi, e⟩ := List.mem_iff_getElem.1 (h.2.1 _ hm)
  refine ⟨i, hi, ?_⟩
  have er : row M i = row K c := by rw [row_eq]; simp [List.getD, hi, e]
  rw [er]
  have hp := placeL_at hm
  have hl := placeL_lt hm
  rcases Nat.lt_trichotomy (placeL K (row K c)) c with g | g | g
  · have hn := h.nodup
    rw [List.nodup_iff_pairwise_ne, List.pairwise_iff_getElem] at hn
    have := hn _ _ hl hc g
    have e1 : K[placeL K (row K c)] = row K (placeL K (row K c)) := by rw [row_eq K (placeL K (row K c))]; simp [List.getD, hl]
    have e2 : K[c] = row K c := by rw [row_eq]; simp [List.getD, hc]
    rw [e1, e2] at this
    exact absurd hp this
  · exact g
  · exact absurd rfl (placeL_ahead g)
end Go.Proofs.Ytjhfieegkgndfaa

/-
  More steps of the world, for backward chaining. No program in sight.
-/
namespace Go.Proofs.Ytjhfieegkgndfaa
set_option linter.unusedVariables false
set_option linter.unusedSimpArgs false
open Go.RowKit
theorem kf_drew {w : World} {a : Addr} (h : w.frozen? a = false) : w.drew.frozen? a = false := h
theorem kf_drewN {w : World} {a : Addr} {n : Nat} (h : w.frozen? a = false) : (w.drewN n).frozen? a = false := h
theorem size_drew (w : World) : w.drew.heap.size = w.heap.size := rfl
theorem size_drewN (w : World) (n : Nat) : (w.drewN n).heap.size = w.heap.size := rfl
end Go.Proofs.Ytjhfieegkgndfaa
