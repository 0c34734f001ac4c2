/-
  Contracts of the laws' own helpers at solutions (the same as at braces).
-/
import Derived.Test.YtjcpeenalbgacaaProg
import Derived.Test.YtjcpeenalbgacaaBase
import Derived.Test.YtjcpeenalbgacaaBase2
import Derived.Test.YtjcpeenalbgacaaRet
import Derived.Test.YtjcpeenalbgacaaPure1
import Derived.Test.YtjcpeenalbgacaaW7
import Derived.Test.YtjcpeenalbgacaaW8
import Derived.Test.YtjcpeenalbgacaaW9
import Derived.Test.YtjcpeenalbgacaaW10
import Derived.Test.YtjcpeenalbgacaaK1
import Derived.Test.YtjcpeenalbgacaaK2
namespace Go.Proofs.Ytjcpeenalbgacaa
set_option linter.unusedVariables false
set_option linter.unusedSimpArgs false
open Go.RowKit

theorem eqSolution_any (s s' t t' : List (List Int)) (v v' u u' : Value) (w : World) (hv : RowsR w v s) (hv' : RowsR w v' s') (hu : RowsR w u t) (hu' : RowsR w u' t') (hs : Small s) (hs' : Small s') :
    Calls Try.prog 31 #[.agg #[v, v'], .agg #[u, u']] w fun e w' => e = .returned (.bool (eqTB s t && eqTB s' t')) ∧ Ext w w' := by
  obtain ⟨a1, c1, rfl, -⟩ := id hv
  obtain ⟨a2, c2, rfl, -⟩ := id hu
  obtain ⟨a3, c3, rfl, -⟩ := id hv'
  obtain ⟨a4, c4, rfl, -⟩ := id hu'
  have hx0 : Ext w ((w.alloc (.cells #[.slice a1 s.length c1, .slice a3 s'.length c3] 41)).alloc (.cells #[.slice a2 t.length c2, .slice a4 t'.length c4] 41)) := ((Ext.refl _).alloc _).alloc _
  have b0 : ((w.alloc (.cells #[.slice a1 s.length c1, .slice a3 s'.length c3] 41)).alloc (.cells #[.slice a2 t.length c2, .slice a4 t'.length c4] 41)).cell? ⟨w.heap.size, 1, none⟩ = some (.slice a3 s'.length c3) := by simp [go_sem]
  have b1 : ((w.alloc (.cells #[.slice a1 s.length c1, .slice a3 s'.length c3] 41)).alloc (.cells #[.slice a2 t.length c2, .slice a4 t'.length c4] 41)).cell? ⟨w.heap.size + 1, 1, none⟩ = some (.slice a4 t'.length c4) := by simp [go_sem]
  cases he : eqTB s t with
  | true =>
    go_enter Try.func31, Try.ntmps31
    go_wp2_with fail
    generalize (w.alloc (.cells #[.slice a1 s.length c1, .slice a3 s'.length c3] 41)).alloc (.cells #[.slice a2 t.length c2, .slice a4 t'.length c4] 41) = A at *
    refine (eqInt64SS_any s t _ _ _ (hv.ext hx0) (hu.ext hx0) hs).mono ?_
    rintro e w1 ⟨rfl, hd⟩
    have hx1 := hd.ext
    have b2 := hx1.cell b0
    have b3 := hx1.cell b1
    rw [he]
    have hX := hx0.trans hx1
    cases he' : eqTB s' t' with
    | true =>
      go_wp2_with fail
      refine (eqInt64SS_any s' t' _ _ _ (hv'.ext hX) (hu'.ext hX) hs').mono ?_
      rintro e w2 ⟨rfl, hd2⟩
      rw [he']
      go_wp2
      go_ret
      exact ⟨ret_bool (by rw [he']; rfl), hX.trans hd2.ext⟩
    | false =>
      go_wp2_with fail
      refine (eqInt64SS_any s' t' _ _ _ (hv'.ext hX) (hu'.ext hX) hs').mono ?_
      rintro e w2 ⟨rfl, hd2⟩
      rw [he']
      go_wp2
      go_ret
      exact ⟨ret_bool (by rw [he']; rfl), hX.trans hd2.ext⟩
  | false =>
    go_enter Try.func31, Try.ntmps31
    go_wp2_with fail
    refine (eqInt64SS_any s t _ _ _ (hv.ext hx0) (hu.ext hx0) hs).mono ?_
    rintro e w1 ⟨rfl, hx1⟩
    rw [he]
    go_wp2
    go_ret
    exact ⟨rfl, hx0.trans hx1.ext⟩

theorem markSolution_any (lo hi : Nat) (t u : List (List Int)) (v y : Value) (k : Int) (w : World) (hv : OwnB lo hi w v y t u) (hh : hi ≤ w.heap.size) (h0 : 0 ≤ k) (h1 : k ≤ 281474976710656) :
    Calls Try.prog 32 #[.agg #[v, y], .int .i64 k] w fun e w' => e = .returned (.int .i64 (k + total t + total u)) ∧ OwnB lo hi w' v y (markTo t k t.length) (markTo u (k + total t) u.length) ∧ Touch lo hi w w' := by
  obtain ⟨⟨hs, a1, c1, rfl, -⟩, ⟨hs', a2, c2, rfl, -⟩⟩ := hv.open
  have hx0 := ext_boxB w (.slice a1 t.length c1) (.slice a2 u.length c2) 41
  have b0 := cell_new2b w (.slice a1 t.length c1) (.slice a2 u.length c2) 41
  have ht := total_nonneg t
  have htl := total_le t hs
  have hu := total_nonneg u
  have hul := total_le u hs'
  obtain ⟨a, b, c, d, k1, k2, k3, k4, k5, g1, g2⟩ := hv
  go_enter Try.func32, Try.ntmps32
  go_wp2_with fail
  generalize (w.alloc (.cells #[.slice a1 t.length c1, .slice a2 u.length c2] 41)) = A at *
  refine (markInt64SS_any a b t _ _ _ (g1.ext hx0 (by omega)) h0 (by omega)).mono ?_
  rintro e w1 ⟨rfl, ho, hm⟩
  have b1 := (Touch.of_marked hm).cell b0 (by simp only []; omega)
  have g3 := (g2.ext hx0 (by omega)).touch (Touch.of_marked hm) (by omega) (by have := hx0.size; omega)
  go_wp2_with fail
  refine (markInt64SS_any c d u _ _ _ g3 (by omega) (by omega)).mono ?_
  rintro e w2 ⟨rfl, ho2, hm2⟩
  go_wp2
  go_ret
  exact ⟨rfl, ⟨a, b, c, d, k1, k2, k3, k4, k5, ho.touch (Touch.of_marked hm2) (by omega) (by have := hx0.size; have := hm.size; omega), ho2⟩,
    ((Touch.of_ext hx0).trans ((Touch.of_marked hm).mono k1 k2)).trans ((Touch.of_marked hm2).mono k3 k4)⟩

theorem heldSolution_any (t u : List (List Int)) (v y : Value) (k : Int) (w : World) (hv : RowsR w v (markTo t k t.length)) (hy : RowsR w y (markTo u (k + total t) u.length)) (hs : Small t) (hs' : Small u) (h0 : 0 ≤ k) (h1 : k ≤ 281474976710656) :
    Calls Try.prog 33 #[.agg #[v, y], .int .i64 k] w fun e w' => e = .returned (.int .i64 (k + total t + total u)) ∧ Ext w w' := by
  obtain ⟨a1, c1, rfl, -⟩ := id hv
  obtain ⟨a2, c2, rfl, -⟩ := id hy
  have hl := length_markTo t k t.length
  have hl' := length_markTo u (k + total t) u.length
  rw [hl] at hv ⊢
  rw [hl'] at hy ⊢
  clear hl hl'
  have hx0 := ext_boxB w (.slice a1 t.length c1) (.slice a2 u.length c2) 41
  have b0 := cell_new2b w (.slice a1 t.length c1) (.slice a2 u.length c2) 41
  have ht := total_nonneg t
  have htl := total_le t hs
  have hu := total_nonneg u
  have hul := total_le u hs'
  go_enter Try.func33, Try.ntmps33
  go_wp2_with fail
  generalize (w.alloc (.cells #[.slice a1 t.length c1, .slice a2 u.length c2] 41)) = A at *
  refine (heldInt64SS_any t _ _ _ (hv.ext hx0) hs h0 (by omega)).mono ?_
  rintro e w1 ⟨rfl, hd1⟩
  have hx1 := hd1.ext
  have b1 := hx1.cell b0
  clear b0
  go_wp2_with fail
  refine (heldInt64SS_any u _ _ _ (hy.ext (hx0.trans hx1)) hs' (by omega) (by omega)).mono ?_
  rintro e w2 ⟨rfl, hd2⟩
  go_wp2
  go_ret
  exact ⟨rfl, (hx0.trans hx1).trans hd2.ext⟩

end Go.Proofs.Ytjcpeenalbgacaa
