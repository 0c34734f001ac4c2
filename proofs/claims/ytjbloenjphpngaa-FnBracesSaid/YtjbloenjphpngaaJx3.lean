/-
  Contracts of the laws' own helpers: copies.
-/
import Derived.Test.YtjbloenjphpngaaProg
import Derived.Test.YtjbloenjphpngaaJx0
import Derived.Test.YtjbloenjphpngaaJx1
import Derived.Test.YtjbloenjphpngaaJx2
import Derived.Test.YtjbloenjphpngaaJx6
namespace Go.Proofs.Ytjbloenjphpngaa
set_option linter.unusedVariables false
set_option linter.unusedSimpArgs false
open Go.RowKit

theorem infoInt : (Try.prog.info? 2).map (fun i => (i.zero, i.size, i.bytes)) = some (some (.int .i64 0), 1, 8) := by kernel_rfl
theorem infoSl : (Try.prog.info? 28).map (fun i => (i.zero, i.size, i.bytes)) = some (some (.slice none 0 0), 1, 24) := by kernel_rfl

/-- a new slice of integers is returned -/
def NewI (l : List Int) (w : World) (e : Ending) (w' : World) : Prop :=
  ∃ b c, e = .returned (.slice (some ⟨b, 0, none⟩) l.length c) ∧ OwnI w.heap.size w'.heap.size w' b 0 l ∧ Ext w w'
/-- a new table is returned -/
def NewT (t : List (List Int)) (w : World) (e : Ending) (w' : World) : Prop :=
  ∃ b c, e = .returned (.slice (some ⟨b, 0, none⟩) t.length c) ∧ OwnT w.heap.size w'.heap.size w' b 0 t ∧ Ext w w'

end Go.Proofs.Ytjbloenjphpngaa

/-
  Contracts of the laws' own helpers: marks.
-/
namespace Go.Proofs.Ytjbloenjphpngaa
set_option linter.unusedVariables false
set_option linter.unusedSimpArgs false
open Go.RowKit

/-- all the entries of a table -/
def total (t : List (List Int)) : Int := startAt t 0 t.length
theorem startAt_add (t : List (List Int)) (k : Int) : ∀ i : Nat, startAt t k i = k + startAt t 0 i
  | 0 => by simp [startAt]
  | i + 1 => by simp only [startAt]; rw [startAt_add t k i]; omega
theorem total_nonneg (t : List (List Int)) : 0 ≤ total t := by
  unfold total
  have : ∀ i : Nat, 0 ≤ startAt t 0 i := by
    intro i
    induction i with
    | zero => simp [startAt]
    | succ i ih => simp only [startAt]; omega
  exact this _
theorem total_le (t : List (List Int)) (hs : Small t) : total t ≤ 1099511627776 := by
  have := startAt_le t 0 hs.2 t.length
  have := hs.1
  unfold total
  omega

/-- behind marking a table -/
def MarkT (lo hi : Nat) (t : List (List Int)) (k : Int) (v : Value) (w : World) (e : Ending) (w' : World) : Prop :=
  e = .returned (.int .i64 (k + total t)) ∧ OwnV lo hi w' v (markTo t k t.length) ∧ Marked lo hi w w'

end Go.Proofs.Ytjbloenjphpngaa

/-
  Contracts of the laws' own helpers at groups.
-/
namespace Go.Proofs.Ytjbloenjphpngaa
set_option linter.unusedVariables false
set_option linter.unusedSimpArgs false
open Go.RowKit

/-- a new struct of one table is returned -/
def NewG (t : List (List Int)) (w : World) (e : Ending) (w' : World) : Prop :=
  ∃ b c, e = .returned (.agg #[.slice (some ⟨b, 0, none⟩) t.length c]) ∧ OwnT w.heap.size w'.heap.size w' b 0 t ∧ Ext w w'

end Go.Proofs.Ytjbloenjphpngaa
