/-
  Contracts of the laws' own helpers at racks (the same as at groups).
-/
import Derived.Test.YtncmfbebdbchbaaProg
import Derived.Test.YtncmfbebdbchbaaBase
import Derived.Test.YtncmfbebdbchbaaBase2
import Derived.Test.YtncmfbebdbchbaaRet
import Derived.Test.YtncmfbebdbchbaaPure1
import Derived.Test.YtncmfbebdbchbaaW7
import Derived.Test.YtncmfbebdbchbaaW8
import Derived.Test.YtncmfbebdbchbaaW9
namespace Go.Proofs.Ytncmfbebdbchbaa
set_option linter.unusedVariables false
set_option linter.unusedSimpArgs false
open Go.RowKit

theorem eqRack_any (s t : List (List Int)) (v u : Value) (w : World) (hv : RowsR w v s) (hu : RowsR w u t) (hs : Small s) :
    Calls Try.prog 19 #[.agg #[v], .agg #[u]] w fun e w' => e = .returned (.bool (eqTB s t)) ∧ Ext w w' := by
  obtain ⟨a1, c1, rfl, h1⟩ := id hv
  obtain ⟨a2, c2, rfl, h2⟩ := id hu
  clear h1 h2
  have hx0 := ext_box2 w (.slice a1 s.length c1) (.slice a2 t.length c2) 26 26
  cases he : eqTB s t with
  | true =>
    go_enter Try.func19, Try.ntmps19
    go_wp2_with fail
    refine (eqInt64SS_any s t _ _ _ (hv.ext hx0) (hu.ext hx0) hs).mono ?_
    rintro e w1 ⟨rfl, hx1⟩
    go_wp2
    go_ret
    exact ⟨rfl, hx0.trans hx1.ext⟩
  | false =>
    go_enter Try.func19, Try.ntmps19
    go_wp2_with fail
    refine (eqInt64SS_any s t _ _ _ (hv.ext hx0) (hu.ext hx0) hs).mono ?_
    rintro e w1 ⟨rfl, hx1⟩
    go_wp2
    go_ret
    exact ⟨rfl, hx0.trans hx1.ext⟩

/-- behind marking what lies in lo .. hi - 1 -/
theorem markRack_any (lo hi : Nat) (t : List (List Int)) (v : Value) (k : Int) (w : World) (hv : OwnV lo hi w v t) (hh : hi ≤ w.heap.size) (h0 : 0 ≤ k) (h1 : k ≤ 562949953421312) :
    Calls Try.prog 22 #[.agg #[v], .int .i64 k] w fun e w' => e = .returned (.int .i64 (k + total t)) ∧ OwnV lo hi w' v (markTo t k t.length) ∧ Touch lo hi w w' := by
  obtain ⟨hs, a1, c1, rfl, h1⟩ := id hv
  clear h1
  have hx0 := ext_box w (.slice a1 t.length c1) 26
  go_enter Try.func22, Try.ntmps22
  go_wp2_with fail
  refine (markInt64SS_any lo hi t _ _ _ (hv.ext hx0 hh) h0 (by omega)).mono ?_
  rintro e w1 ⟨rfl, ho, hm⟩
  go_wp2
  go_ret
  exact ⟨rfl, ho, (Touch.of_ext hx0).trans (Touch.of_marked hm)⟩

theorem heldRack_any (t : List (List Int)) (v : Value) (k : Int) (w : World) (hv : RowsR w v (markTo t k t.length)) (hs : Small t) (h0 : 0 ≤ k) (h1 : k ≤ 562949953421312) :
    Calls Try.prog 23 #[.agg #[v], .int .i64 k] w fun e w' => e = .returned (.int .i64 (k + total t)) ∧ Ext w w' := by
  obtain ⟨a1, c1, rfl, h2⟩ := id hv
  clear h2
  rw [length_markTo] at hv ⊢
  have hx0 := ext_box w (.slice a1 t.length c1) 26
  have ht := total_nonneg t
  go_enter Try.func23, Try.ntmps23
  go_wp2_with fail
  refine (heldInt64SS_any t _ _ _ (hv.ext hx0) hs h0 (by omega)).mono ?_
  rintro e w1 ⟨rfl, hx1⟩
  go_wp2
  go_ret
  exact ⟨rfl, hx0.trans hx1.ext⟩
end Go.Proofs.Ytncmfbebdbchbaa
