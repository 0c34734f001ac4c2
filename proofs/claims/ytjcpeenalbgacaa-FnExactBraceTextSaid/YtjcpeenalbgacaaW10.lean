/-
  Contracts of the laws' own helpers at groups.
-/
import Derived.Test.YtjcpeenalbgacaaProg
import Derived.Test.YtjcpeenalbgacaaBase
import Derived.Test.YtjcpeenalbgacaaBase2
import Derived.Test.YtjcpeenalbgacaaPure1
import Derived.Test.YtjcpeenalbgacaaW7
import Derived.Test.YtjcpeenalbgacaaW8
import Derived.Test.YtjcpeenalbgacaaW9
namespace Go.Proofs.Ytjcpeenalbgacaa
set_option linter.unusedVariables false
set_option linter.unusedSimpArgs false
open Go.RowKit

theorem eqGroup_any (s t : List (List Int)) (v u : Value) (w : World) (hv : RowsR w v s) (hu : RowsR w u t) (hs : Small s) :
    Calls Try.prog 44 #[.agg #[v], .agg #[u]] w fun e w' => e = .returned (.bool (eqTB s t)) ∧ Ext w w' := by
  obtain ⟨a1, c1, rfl, h1⟩ := id hv
  obtain ⟨a2, c2, rfl, h2⟩ := id hu
  clear h1 h2
  have hx0 := ext_box2 w (.slice a1 s.length c1) (.slice a2 t.length c2) 53 53
  cases he : eqTB s t with
  | true =>
    go_enter Try.func44, Try.ntmps44
    go_wp2_with fail
    refine (eqInt64SS_any s t _ _ _ (hv.ext hx0) (hu.ext hx0) hs).mono ?_
    rintro e w1 ⟨rfl, hx1⟩
    go_wp2
    go_ret
    exact ⟨rfl, hx0.trans hx1.ext⟩
  | false =>
    go_enter Try.func44, Try.ntmps44
    go_wp2_with fail
    refine (eqInt64SS_any s t _ _ _ (hv.ext hx0) (hu.ext hx0) hs).mono ?_
    rintro e w1 ⟨rfl, hx1⟩
    go_wp2
    go_ret
    exact ⟨rfl, hx0.trans hx1.ext⟩

/-- behind marking what lies in lo .. hi - 1 -/
theorem markGroup_any (lo hi : Nat) (t : List (List Int)) (v : Value) (k : Int) (w : World) (hv : OwnV lo hi w v t) (hh : hi ≤ w.heap.size) (h0 : 0 ≤ k) (h1 : k ≤ 562949953421312) :
    Calls Try.prog 45 #[.agg #[v], .int .i64 k] w fun e w' => e = .returned (.int .i64 (k + total t)) ∧ OwnV lo hi w' v (markTo t k t.length) ∧ Touch lo hi w w' := by
  obtain ⟨hs, a1, c1, rfl, h1⟩ := id hv
  clear h1
  have hx0 := ext_box w (.slice a1 t.length c1) 53
  go_enter Try.func45, Try.ntmps45
  go_wp2_with fail
  refine (markInt64SS_any lo hi t _ _ _ (hv.ext hx0 hh) h0 (by omega)).mono ?_
  rintro e w1 ⟨rfl, ho, hm⟩
  go_wp2
  go_ret
  exact ⟨rfl, ho, (Touch.of_ext hx0).trans (Touch.of_marked hm)⟩

theorem heldGroup_any (t : List (List Int)) (v : Value) (k : Int) (w : World) (hv : RowsR w v (markTo t k t.length)) (hs : Small t) (h0 : 0 ≤ k) (h1 : k ≤ 562949953421312) :
    Calls Try.prog 46 #[.agg #[v], .int .i64 k] w fun e w' => e = .returned (.int .i64 (k + total t)) ∧ Ext w w' := by
  obtain ⟨a1, c1, rfl, h2⟩ := id hv
  clear h2
  rw [length_markTo] at hv ⊢
  have hx0 := ext_box w (.slice a1 t.length c1) 53
  have ht := total_nonneg t
  go_enter Try.func46, Try.ntmps46
  go_wp2_with fail
  refine (heldInt64SS_any t _ _ _ (hv.ext hx0) hs h0 (by omega)).mono ?_
  rintro e w1 ⟨rfl, hx1⟩
  go_wp2
  go_ret
  exact ⟨rfl, hx0.trans hx1.ext⟩

/-- what a size says: below 0, or all is small -/
def SzPostE (t : List (List Int)) (k : Int) (w : World) (e : Ending) (w' : World) : Prop :=
  ∃ r : Int, e = .returned (.int .i64 r) ∧ -1 ≤ r ∧ r ≤ k ∧ (0 ≤ r → Small t) ∧ Ext w w'
theorem szGroup_any (t : List (List Int)) (v : Value) (k : Int) (w : World) (hv : RowsR w v t) (hl : t.length ≤ maxLen) (hr : ∀ i, (row t i).length ≤ maxLen) (h0 : 0 ≤ k) (h1 : k ≤ 1048576) :
    Calls Try.prog 40 #[.agg #[v], .int .i64 k] w (SzPostE t k w) := by
  obtain ⟨a1, c1, rfl, h2⟩ := id hv
  clear h2
  have HR := Lib.hid hr
  clear hr
  have hx0 := ext_box w (.slice a1 t.length c1) 51
  go_enter Try.func40, Try.ntmps40
  go_wp2_with fail
  refine (szInt64SS_any t _ _ _ (hv.ext hx0) hl HR.out h0 (by omega)).mono ?_
  rintro e w1 ⟨r, rfl, g1, g2, g3, rfl⟩
  have G3 := Lib.hid g3
  clear g3
  by_cases hr : r < 0
  · go_wp2
    go_ret
    exact ⟨-1, rfl, by omega, by omega, by omega, hx0⟩
  · go_wp2
    go_ret
    exact ⟨r, rfl, by omega, by omega, G3.out, hx0⟩

/-- a new struct of one table is returned -/
def NewG (t : List (List Int)) (w : World) (e : Ending) (w' : World) : Prop :=
  ∃ b c, e = .returned (.agg #[.slice (some ⟨b, 0, none⟩) t.length c]) ∧ OwnT w.heap.size w'.heap.size w' b 0 t ∧ Ext w w'
theorem toGroup_any (t : List (List Int)) (v : Value) (w : World) (hv : RowsR w v t) (hs : Small t) :
    Calls Try.prog 42 #[.agg #[v]] w (NewG t w) := by
  obtain ⟨a1, c1, rfl, h2⟩ := id hv
  clear h2
  go_enter Try.func42, Try.ntmps42
  go_wp2_with fail
  have hx0 : Ext w (((w.alloc (Obj.cells #[Value.slice a1 t.length c1] 51)).alloc (Obj.cells #[Value.slice none 0 0] 53)).alloc (Obj.cells #[Value.slice none 0 0] 53)) := (((Ext.refl _).alloc _).alloc _).alloc _
  refine (toInt64SS_any t _ _ (hv.ext hx0) hs).mono ?_
  rintro e w1 ⟨b, c, rfl, ho, hx1⟩
  have f1 := hx1.cell (p := ⟨w.heap.size + 1 + 1, 0, none⟩) (v := .slice none 0 0) (by simp [go_sem])
  have f2 := hx1.free (p := ⟨w.heap.size + 1 + 1, 0, none⟩) (by simp [go_sem]) (by simp)
  have f3 := hx1.cell (p := ⟨w.heap.size + 1, 0, none⟩) (v := .slice none 0 0) (by simp [go_sem])
  have f4 := hx1.free (p := ⟨w.heap.size + 1, 0, none⟩) (by simp [go_sem]) (by simp)
  go_wp2
  refine bodyPost_ret (v := .agg #[.slice (some ⟨b, 0, none⟩) t.length c]) (by simp [results, Try.results42, go_sem, f3]) rfl ⟨b, c, rfl, ?_, ((hx0.trans hx1).setNew (by simp; omega) _).setNew (by simp) _⟩
  have hsz := hx1.size
  simp at hsz
  exact (((ho.setOther (.inl (by simp)) _).setOther (.inl (by simp)) _).mono (by simp; omega) (by simp))
end Go.Proofs.Ytjcpeenalbgacaa
