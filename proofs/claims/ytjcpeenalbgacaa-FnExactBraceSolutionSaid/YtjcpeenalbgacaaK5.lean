/-
  A struct of tables that a call has made, in a box; stores beside results.
-/
import Derived.Test.YtjcpeenalbgacaaBase
import Derived.Test.YtjcpeenalbgacaaBase2
import Derived.Test.YtjcpeenalbgacaaRet
import Derived.Test.YtjcpeenalbgacaaSteps
import Derived.Test.YtjcpeenalbgacaaK1
import Derived.Test.YtjcpeenalbgacaaK2
import Derived.Test.YtjcpeenalbgacaaPureProd
import Derived.Test.YtjcpeenalbgacaaW8
import Derived.Test.YtjcpeenalbgacaaW12
namespace Go.Proofs.Ytjcpeenalbgacaa
set_option linter.unusedVariables false
set_option linter.unusedSimpArgs false
open Go.RowKit

theorem kR_alloc {w : World} {v : Value} {t : List (List Int)} {o : Obj} (h : RowsR w v t) : RowsR (w.alloc o) v t := h.ext ((Ext.refl w).alloc o)
theorem kR_drew {w : World} {v : Value} {t : List (List Int)} (h : RowsR w v t) : RowsR w.drew v t := h.ext (Ext.refl w).drew
/-- no row is empty -/
def NoEmpty (t : List (List Int)) : Prop := ∀ i, i < t.length → row t i ≠ []
theorem NoEmpty.nil : NoEmpty [] := fun i h => by simp at h
theorem NoEmpty.made {n : Nat} (h : 0 < n) (f : Nat → Nat → Int) : NoEmpty (mkT n f) := fun i hi => by
  rw [length_mkT] at hi
  intro e
  have : (row (mkT n f) i).length = n := by rw [row_mkT _ _ _ hi]; exact length_partRow _ _ _ _
  rw [e] at this
  simp at this
  omega
theorem kR_setNil {w : World} {v : Value} {t : List (List Int)} (hne : NoEmpty t) {a : Addr} {u : Value} (ha : w.cell? a = some (.slice none 0 0)) (h : RowsR w v t) : RowsR (w.setCell a u) v t := by
  obtain ⟨p, c, rfl, h⟩ := h
  refine ⟨p, c, rfl, fun hl => ?_⟩
  obtain ⟨b, o, rfl, hc⟩ := h hl
  refine ⟨b, o, rfl, fun i hi => ?_⟩
  obtain ⟨r, h1, q, d, rfl, h2⟩ := hc i hi
  obtain ⟨b2, o2, rfl, h3⟩ := h2 (hne i hi)
  refine ⟨.slice (some ⟨b2, o2, none⟩) (row t i).length d, ?_, _, d, rfl, fun _ => ⟨b2, o2, rfl, h3.setNil ha u⟩⟩
  rw [World.cell?_setCell_other _ _ _ _ (fun e => by rw [e, h1] at ha; simp at ha)]
  exact h1
def Box1 (T : List (List Int)) (C : Int) (w : World) (p q : Value) (wx : World) : Prop := ∃ R a c, p = .pointer (some ⟨R, 0, none⟩) ∧ q = .int .i64 C ∧
  wx.cell? ⟨R, 0, none⟩ = some (.slice a T.length c) ∧ RowsR wx (.slice a T.length c) T ∧ Ext w wx
def Box2 (T U : List (List Int)) (C : Int) (w : World) (p q : Value) (wx : World) : Prop := ∃ R a c a2 c2, p = .pointer (some ⟨R, 0, none⟩) ∧ q = .int .i64 C ∧
  wx.cell? ⟨R, 0, none⟩ = some (.slice a T.length c) ∧ wx.cell? ⟨R, 1, none⟩ = some (.slice a2 U.length c2) ∧ RowsR wx (.slice a T.length c) T ∧ RowsR wx (.slice a2 U.length c2) U ∧ Ext w wx
end Go.Proofs.Ytjcpeenalbgacaa
