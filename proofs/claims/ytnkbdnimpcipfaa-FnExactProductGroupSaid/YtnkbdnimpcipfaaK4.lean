/-
  Contracts of the laws' own helpers at racks (the same as at groups).
-/
import Derived.Test.YtnkbdnimpcipfaaProg
import Derived.Test.YtnkbdnimpcipfaaBase
import Derived.Test.YtnkbdnimpcipfaaBase2
import Derived.Test.YtnkbdnimpcipfaaRet
import Derived.Test.YtnkbdnimpcipfaaPure1
import Derived.Test.YtnkbdnimpcipfaaW7
import Derived.Test.YtnkbdnimpcipfaaW8
import Derived.Test.YtnkbdnimpcipfaaW9
namespace Go.Proofs.Ytnkbdnimpcipfaa
set_option linter.unusedVariables false
set_option linter.unusedSimpArgs false
open Go.RowKit

theorem eqRack_any (s t : List (List Int)) (v u : Value) (w : World) (hv : RowsR w v s) (hu : RowsR w u t) (hs : Small s) :
    Calls Try.prog 52 #[.agg #[v], .agg #[u]] w fun e w' => e = .returned (.bool (eqTB s t)) ∧ Ext w w' := by
  obtain ⟨a1, c1, rfl, h1⟩ := id hv
  obtain ⟨a2, c2, rfl, h2⟩ := id hu
  clear h1 h2
  have hx0 := ext_box2 w (.slice a1 s.length c1) (.slice a2 t.length c2) 59 59
  cases he : eqTB s t with
  | true =>
    go_enter Try.func52, Try.ntmps52
    go_wp2_with fail
    refine (eqInt64SS_any s t _ _ _ (hv.ext hx0) (hu.ext hx0) hs).mono ?_
    rintro e w1 ⟨rfl, hx1⟩
    go_wp2
    go_ret
    exact ⟨rfl, hx0.trans hx1.ext⟩
  | false =>
    go_enter Try.func52, Try.ntmps52
    go_wp2_with fail
    refine (eqInt64SS_any s t _ _ _ (hv.ext hx0) (hu.ext hx0) hs).mono ?_
    rintro e w1 ⟨rfl, hx1⟩
    go_wp2
    go_ret
    exact ⟨rfl, hx0.trans hx1.ext⟩

/-- behind marking what lies in lo .. hi - 1 -/
theorem markRack_any (lo hi : Nat) (t : List (List Int)) (v : Value) (k : Int) (w : World) (hv : OwnV lo hi w v t) (hh : hi ≤ w.heap.size) (h0 : 0 ≤ k) (h1 : k ≤ 562949953421312) :
    Calls Try.prog 53 #[.agg #[v], .int .i64 k] w fun e w' => e = .returned (.int .i64 (k + total t)) ∧ OwnV lo hi w' v (markTo t k t.length) ∧ Touch lo hi w w' := by
  obtain ⟨hs, a1, c1, rfl, h1⟩ := id hv
  clear h1
  have hx0 := ext_box w (.slice a1 t.length c1) 59
  go_enter Try.func53, Try.ntmps53
  go_wp2_with fail
  refine (markInt64SS_any lo hi t _ _ _ (hv.ext hx0 hh) h0 (by omega)).mono ?_
  rintro e w1 ⟨rfl, ho, hm⟩
  go_wp2
  go_ret
  exact ⟨rfl, ho, (Touch.of_ext hx0).trans (Touch.of_marked hm)⟩

theorem heldRack_any (t : List (List Int)) (v : Value) (k : Int) (w : World) (hv : RowsR w v (markTo t k t.length)) (hs : Small t) (h0 : 0 ≤ k) (h1 : k ≤ 562949953421312) :
    Calls Try.prog 54 #[.agg #[v], .int .i64 k] w fun e w' => e = .returned (.int .i64 (k + total t)) ∧ Ext w w' := by
  obtain ⟨a1, c1, rfl, h2⟩ := id hv
  clear h2
  rw [length_markTo] at hv ⊢
  have hx0 := ext_box w (.slice a1 t.length c1) 59
  have ht := total_nonneg t
  go_enter Try.func54, Try.ntmps54
  go_wp2_with fail
  refine (heldInt64SS_any t _ _ _ (hv.ext hx0) hs h0 (by omega)).mono ?_
  rintro e w1 ⟨rfl, hx1⟩
  go_wp2
  go_ret
  exact ⟨rfl, hx0.trans hx1.ext⟩
end Go.Proofs.Ytnkbdnimpcipfaa
