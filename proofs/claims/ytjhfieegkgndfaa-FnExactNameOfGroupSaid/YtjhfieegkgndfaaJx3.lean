/-
  What the exported functions return: shapes of results.
-/
import Derived.Test.YtjhfieegkgndfaaJx0
import Derived.Test.YtjhfieegkgndfaaJx1
namespace Go.Proofs.Ytjhfieegkgndfaa
set_option linter.unusedVariables false
set_option linter.unusedSimpArgs false
open Go.RowKit

theorem IntsAt.setNil {w : World} {b o : Nat} {l : List Int} (h : IntsAt w b o l) {a : Addr} (ha : w.cell? a = some (.slice none 0 0)) (u : Value) : IntsAt (w.setCell a u) b o l := fun i hi => by
  have := h i hi
  rw [World.cell?_setCell_other _ _ _ _ (fun e => by rw [e, this] at ha; simp at ha)]; exact this
theorem Ints.setNil {w : World} {v : Value} {l : List Int} (h : Ints w v l) {a : Addr} (ha : w.cell? a = some (.slice none 0 0)) (u : Value) : Ints (w.setCell a u) v l := by
  obtain ⟨hl, b, o, c, rfl, hc⟩ := h
  exact ⟨hl, b, o, c, rfl, hc.setNil ha u⟩
/-- a store into a cell that holds nil turns no table -/
theorem Rows.setNil {w : World} {v : Value} {t : List (List Int)} (h : Rows w v t) {a : Addr} (ha : w.cell? a = some (.slice none 0 0)) (u : Value) : Rows (w.setCell a u) v t := by
  obtain ⟨hl, b, o, c, rfl, hc⟩ := h
  refine ⟨hl, b, o, c, rfl, fun i hi => ?_⟩
  obtain ⟨r, h1, h2⟩ := hc i hi
  refine ⟨r, ?_, h2.setNil ha u⟩
  rw [World.cell?_setCell_other _ _ _ _ (fun e => by
    obtain ⟨_, b', o', c', rfl, _⟩ := h2
    rw [e, h1] at ha; simp at ha)]
  exact h1

/-- a struct of one table and a code are returned (reference) -/
def RetG (t : List (List Int)) (c : Int) (w : World) (e : Ending) (w' : World) : Prop := ∃ v, e = .returned (.tuple #[.agg #[v], .int .i64 c]) ∧ RowsR w' v t ∧ Ext w w'
/-- a struct of one table, in new memory, and a code are returned (program) -/
def NewGC (t : List (List Int)) (c : Int) (w : World) (e : Ending) (w' : World) : Prop := ∃ v, e = .returned (.tuple #[.agg #[v], .int .i64 c]) ∧ OwnV w.heap.size w'.heap.size w' v t ∧ Ext w w'
/-- a number and a code are returned -/
def RetII (x c : Int) (w : World) (e : Ending) (w' : World) : Prop := e = .returned (.tuple #[.int .i64 x, .int .i64 c]) ∧ Ext w w'
/-- a truth value and a code are returned -/
def RetBI (x : Bool) (c : Int) (w : World) (e : Ending) (w' : World) : Prop := e = .returned (.tuple #[.bool x, .int .i64 c]) ∧ Ext w w'
theorem ret_two {a b c d : Int} (h : a = b) (k : c = d) : Ending.returned (.tuple #[.int .i64 a, .int .i64 c]) = .returned (.tuple #[.int .i64 b, .int .i64 d]) := by rw [h, k]
end Go.Proofs.Ytjhfieegkgndfaa
