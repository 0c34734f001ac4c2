/-
  Contracts of the laws' own helpers at braces.
-/
import Derived.Test.YtjcpeenalbgacaaProg
import Derived.Test.YtjcpeenalbgacaaBase
import Derived.Test.YtjcpeenalbgacaaBase2
import Derived.Test.YtjcpeenalbgacaaRet
import Derived.Test.YtjcpeenalbgacaaPure1
import Derived.Test.YtjcpeenalbgacaaW7
import Derived.Test.YtjcpeenalbgacaaW8
import Derived.Test.YtjcpeenalbgacaaW9
import Derived.Test.YtjcpeenalbgacaaW10
import Derived.Test.YtjcpeenalbgacaaK1
namespace Go.Proofs.Ytjcpeenalbgacaa
set_option linter.unusedVariables false
set_option linter.unusedSimpArgs false
open Go.RowKit

/-- two slices hold two tables -/
def RowsB (w : World) (v y : Value) (t u : List (List Int)) : Prop := RowsR w v t ∧ RowsR w y u
theorem RowsB.ext {w w' : World} {v y : Value} {t u : List (List Int)} (h : RowsB w v y t u) (hx : Ext w w') : RowsB w' v y t u := ⟨h.1.ext hx, h.2.ext hx⟩
/-- two tables of the call's own, apart from each other -/
def OwnB (lo hi : Nat) (w : World) (v y : Value) (t u : List (List Int)) : Prop :=
  ∃ a b c d : Nat, lo ≤ a ∧ b ≤ hi ∧ lo ≤ c ∧ d ≤ hi ∧ (b ≤ c ∨ d ≤ a) ∧ OwnV a b w v t ∧ OwnV c d w y u
theorem OwnB.toR {lo hi : Nat} {w : World} {v y : Value} {t u : List (List Int)} (h : OwnB lo hi w v y t u) : RowsR w v t ∧ RowsR w y u := by
  obtain ⟨a, b, c, d, -, -, -, -, -, h1, h2⟩ := h
  exact ⟨h1.toR, h2.toR⟩
theorem OwnB.small {lo hi : Nat} {w : World} {v y : Value} {t u : List (List Int)} (h : OwnB lo hi w v y t u) : Small t ∧ Small u := by
  obtain ⟨a, b, c, d, -, -, -, -, -, h1, h2⟩ := h
  exact ⟨h1.1, h2.1⟩
theorem OwnB.open {lo hi : Nat} {w : World} {v y : Value} {t u : List (List Int)} (h : OwnB lo hi w v y t u) :
    (Small t ∧ ∃ a c, v = .slice a t.length c ∧ True) ∧ (Small u ∧ ∃ a c, y = .slice a u.length c ∧ True) := by
  obtain ⟨a, b, c, d, -, -, -, -, -, ⟨h1, a1, c1, rfl, -⟩, ⟨h2, a2, c2, rfl, -⟩⟩ := h
  exact ⟨⟨h1, a1, c1, rfl, trivial⟩, ⟨h2, a2, c2, rfl, trivial⟩⟩
theorem OwnB.keep {lo hi : Nat} {w w' : World} {v y : Value} {t u : List (List Int)} (h : OwnB lo hi w v y t u) (e : ∀ k, lo ≤ k → k < hi → w'.heap[k]? = w.heap[k]?) : OwnB lo hi w' v y t u := by
  obtain ⟨a, b, c, d, k1, k2, k3, k4, k5, h1, h2⟩ := h
  exact ⟨a, b, c, d, k1, k2, k3, k4, k5, h1.keep fun k q1 q2 => e k (by omega) (by omega), h2.keep fun k q1 q2 => e k (by omega) (by omega)⟩
theorem OwnB.ext {lo hi : Nat} {w w' : World} {v y : Value} {t u : List (List Int)} (h : OwnB lo hi w v y t u) (hx : Ext w w') (hh : hi ≤ w.heap.size) : OwnB lo hi w' v y t u := h.keep fun k _ hk => hx.block k (by omega)
theorem OwnB.touch {lo hi lo' hi' : Nat} {w w' : World} {v y : Value} {t u : List (List Int)} (h : OwnB lo hi w v y t u) (m : Touch lo' hi' w w') (hd : hi ≤ lo' ∨ hi' ≤ lo) (hw : hi ≤ w.heap.size) : OwnB lo hi w' v y t u :=
  h.keep fun k h1 h2 => m.block k (by omega) (by omega)
theorem OwnB.mono {lo hi lo' hi' : Nat} {w : World} {v y : Value} {t u : List (List Int)} (h : OwnB lo hi w v y t u) (h1 : lo' ≤ lo) (h2 : hi ≤ hi') : OwnB lo' hi' w v y t u := by
  obtain ⟨a, b, c, d, k1, k2, k3, k4, k5, g1, g2⟩ := h
  exact ⟨a, b, c, d, by omega, by omega, by omega, by omega, k5, g1, g2⟩
theorem OwnB.nil (lo hi : Nat) (w : World) (h : lo ≤ hi) : OwnB lo hi w (.slice none 0 0) (.slice none 0 0) [] [] := ⟨lo, lo, lo, lo, by omega, by omega, by omega, by omega, by omega, OwnV.nil _ _ _, OwnV.nil _ _ _⟩
theorem RowsB.nil (w : World) (c d : Nat) : RowsB w (.slice none 0 c) (.slice none 0 d) [] [] := ⟨RowsR.nil _ _, RowsR.nil _ _⟩

/-- a struct of two tables and a code are returned (reference) -/
def RetB (t u : List (List Int)) (c : Int) (w : World) (e : Ending) (w' : World) : Prop := ∃ v y, e = .returned (.tuple #[.agg #[v, y], .int .i64 c]) ∧ RowsB w' v y t u ∧ Ext w w'
/-- a struct of two tables, in new memory, and a code are returned (program) -/
def NewBC (t u : List (List Int)) (c : Int) (w : World) (e : Ending) (w' : World) : Prop := ∃ v y, e = .returned (.tuple #[.agg #[v, y], .int .i64 c]) ∧ OwnB w.heap.size w'.heap.size w' v y t u ∧ Ext w w'

theorem cell_new2a (w : World) (v u : Value) (T : Nat) : (w.alloc (.cells #[v, u] T)).cell? ⟨w.heap.size, 0, none⟩ = some v := by simp [go_sem]
theorem cell_new2b (w : World) (v u : Value) (T : Nat) : (w.alloc (.cells #[v, u] T)).cell? ⟨w.heap.size, 1, none⟩ = some u := by simp [go_sem]
theorem ext_boxB (w : World) (v u : Value) (T : Nat) : Ext w (w.alloc (.cells #[v, u] T)) := (Ext.refl _).alloc _

theorem eqBrace_any (s s' t t' : List (List Int)) (v v' u u' : Value) (w : World) (hv : RowsR w v s) (hv' : RowsR w v' s') (hu : RowsR w u t) (hu' : RowsR w u' t') (hs : Small s) (hs' : Small s') :
    Calls Try.prog 20 #[.agg #[v, v'], .agg #[u, u']] w fun e w' => e = .returned (.bool (eqTB s t && eqTB s' t')) ∧ Ext w w' := by
  obtain ⟨a1, c1, rfl, -⟩ := id hv
  obtain ⟨a2, c2, rfl, -⟩ := id hu
  obtain ⟨a3, c3, rfl, -⟩ := id hv'
  obtain ⟨a4, c4, rfl, -⟩ := id hu'
  have hx0 : Ext w ((w.alloc (.cells #[.slice a1 s.length c1, .slice a3 s'.length c3] 29)).alloc (.cells #[.slice a2 t.length c2, .slice a4 t'.length c4] 29)) := ((Ext.refl _).alloc _).alloc _
  have b0 : ((w.alloc (.cells #[.slice a1 s.length c1, .slice a3 s'.length c3] 29)).alloc (.cells #[.slice a2 t.length c2, .slice a4 t'.length c4] 29)).cell? ⟨w.heap.size, 1, none⟩ = some (.slice a3 s'.length c3) := by simp [go_sem]
  have b1 : ((w.alloc (.cells #[.slice a1 s.length c1, .slice a3 s'.length c3] 29)).alloc (.cells #[.slice a2 t.length c2, .slice a4 t'.length c4] 29)).cell? ⟨w.heap.size + 1, 1, none⟩ = some (.slice a4 t'.length c4) := by simp [go_sem]
  cases he : eqTB s t with
  | true =>
    go_enter Try.func20, Try.ntmps20
    go_wp2_with fail
    generalize (w.alloc (.cells #[.slice a1 s.length c1, .slice a3 s'.length c3] 29)).alloc (.cells #[.slice a2 t.length c2, .slice a4 t'.length c4] 29) = A at *
    refine (eqInt64SS_any s t _ _ _ (hv.ext hx0) (hu.ext hx0) hs).mono ?_
    rintro e w1 ⟨rfl, hd⟩
    have hx1 := hd.ext
    have b2 := hx1.cell b0
    have b3 := hx1.cell b1
    rw [he]
    have hX := hx0.trans hx1
    cases he' : eqTB s' t' with
    | true =>
      go_wp2_with fail
      refine (eqInt64SS_any s' t' _ _ _ (hv'.ext hX) (hu'.ext hX) hs').mono ?_
      rintro e w2 ⟨rfl, hd2⟩
      rw [he']
      go_wp2
      go_ret
      exact ⟨ret_bool (by rw [he']; rfl), hX.trans hd2.ext⟩
    | false =>
      go_wp2_with fail
      refine (eqInt64SS_any s' t' _ _ _ (hv'.ext hX) (hu'.ext hX) hs').mono ?_
      rintro e w2 ⟨rfl, hd2⟩
      rw [he']
      go_wp2
      go_ret
      exact ⟨ret_bool (by rw [he']; rfl), hX.trans hd2.ext⟩
  | false =>
    go_enter Try.func20, Try.ntmps20
    go_wp2_with fail
    refine (eqInt64SS_any s t _ _ _ (hv.ext hx0) (hu.ext hx0) hs).mono ?_
    rintro e w1 ⟨rfl, hx1⟩
    rw [he]
    go_wp2
    go_ret
    exact ⟨rfl, hx0.trans hx1.ext⟩

theorem markBrace_any (lo hi : Nat) (t u : List (List Int)) (v y : Value) (k : Int) (w : World) (hv : OwnB lo hi w v y t u) (hh : hi ≤ w.heap.size) (h0 : 0 ≤ k) (h1 : k ≤ 281474976710656) :
    Calls Try.prog 21 #[.agg #[v, y], .int .i64 k] w fun e w' => e = .returned (.int .i64 (k + total t + total u)) ∧ OwnB lo hi w' v y (markTo t k t.length) (markTo u (k + total t) u.length) ∧ Touch lo hi w w' := by
  obtain ⟨⟨hs, a1, c1, rfl, -⟩, ⟨hs', a2, c2, rfl, -⟩⟩ := hv.open
  have hx0 := ext_boxB w (.slice a1 t.length c1) (.slice a2 u.length c2) 29
  have b0 := cell_new2b w (.slice a1 t.length c1) (.slice a2 u.length c2) 29
  have ht := total_nonneg t
  have htl := total_le t hs
  have hu := total_nonneg u
  have hul := total_le u hs'
  obtain ⟨a, b, c, d, k1, k2, k3, k4, k5, g1, g2⟩ := hv
  go_enter Try.func21, Try.ntmps21
  go_wp2_with fail
  generalize (w.alloc (.cells #[.slice a1 t.length c1, .slice a2 u.length c2] 29)) = A at *
  refine (markInt64SS_any a b t _ _ _ (g1.ext hx0 (by omega)) h0 (by omega)).mono ?_
  rintro e w1 ⟨rfl, ho, hm⟩
  have b1 := (Touch.of_marked hm).cell b0 (by simp only []; omega)
  have g3 := (g2.ext hx0 (by omega)).touch (Touch.of_marked hm) (by omega) (by have := hx0.size; omega)
  go_wp2_with fail
  refine (markInt64SS_any c d u _ _ _ g3 (by omega) (by omega)).mono ?_
  rintro e w2 ⟨rfl, ho2, hm2⟩
  go_wp2
  go_ret
  exact ⟨rfl, ⟨a, b, c, d, k1, k2, k3, k4, k5, ho.touch (Touch.of_marked hm2) (by omega) (by have := hx0.size; have := hm.size; omega), ho2⟩,
    ((Touch.of_ext hx0).trans ((Touch.of_marked hm).mono k1 k2)).trans ((Touch.of_marked hm2).mono k3 k4)⟩

theorem heldBrace_any (t u : List (List Int)) (v y : Value) (k : Int) (w : World) (hv : RowsR w v (markTo t k t.length)) (hy : RowsR w y (markTo u (k + total t) u.length)) (hs : Small t) (hs' : Small u) (h0 : 0 ≤ k) (h1 : k ≤ 281474976710656) :
    Calls Try.prog 26 #[.agg #[v, y], .int .i64 k] w fun e w' => e = .returned (.int .i64 (k + total t + total u)) ∧ Ext w w' := by
  obtain ⟨a1, c1, rfl, -⟩ := id hv
  obtain ⟨a2, c2, rfl, -⟩ := id hy
  have hl := length_markTo t k t.length
  have hl' := length_markTo u (k + total t) u.length
  rw [hl] at hv ⊢
  rw [hl'] at hy ⊢
  clear hl hl'
  have hx0 := ext_boxB w (.slice a1 t.length c1) (.slice a2 u.length c2) 29
  have b0 := cell_new2b w (.slice a1 t.length c1) (.slice a2 u.length c2) 29
  have ht := total_nonneg t
  have htl := total_le t hs
  have hu := total_nonneg u
  have hul := total_le u hs'
  go_enter Try.func26, Try.ntmps26
  go_wp2_with fail
  generalize (w.alloc (.cells #[.slice a1 t.length c1, .slice a2 u.length c2] 29)) = A at *
  refine (heldInt64SS_any t _ _ _ (hv.ext hx0) hs h0 (by omega)).mono ?_
  rintro e w1 ⟨rfl, hd1⟩
  have hx1 := hd1.ext
  have b1 := hx1.cell b0
  clear b0
  go_wp2_with fail
  refine (heldInt64SS_any u _ _ _ (hy.ext (hx0.trans hx1)) hs' (by omega) (by omega)).mono ?_
  rintro e w2 ⟨rfl, hd2⟩
  go_wp2
  go_ret
  exact ⟨rfl, (hx0.trans hx1).trans hd2.ext⟩

/-- what a size says: below 0, or all is small -/
def SzPostB (t u : List (List Int)) (k : Int) (w : World) (e : Ending) (w' : World) : Prop :=
  ∃ r : Int, e = .returned (.int .i64 r) ∧ -1 ≤ r ∧ r ≤ k ∧ (0 ≤ r → Small t ∧ Small u) ∧ Ext w w'

theorem szBrace_any (t u : List (List Int)) (v y : Value) (k : Int) (w : World) (hv : RowsR w v t) (hy : RowsR w y u) (hl : t.length ≤ maxLen) (hr : ∀ i, (row t i).length ≤ maxLen) (hl' : u.length ≤ maxLen) (hr' : ∀ i, (row u i).length ≤ maxLen) (h0 : 0 ≤ k) (h1 : k ≤ 1048576) :
    Calls Try.prog 15 #[.agg #[v, y], .int .i64 k] w (SzPostB t u k w) := by
  obtain ⟨a1, c1, rfl, -⟩ := id hv
  obtain ⟨a2, c2, rfl, -⟩ := id hy
  have HR := Lib.hid hr
  have HR' := Lib.hid hr'
  clear hr hr'
  have hx0 := ext_boxB w (.slice a1 t.length c1) (.slice a2 u.length c2) 24
  have b0 := cell_new2b w (.slice a1 t.length c1) (.slice a2 u.length c2) 24
  go_enter Try.func15, Try.ntmps15
  go_wp2_with fail
  generalize (w.alloc (.cells #[.slice a1 t.length c1, .slice a2 u.length c2] 24)) = A at *
  refine (szInt64SS_any t _ _ _ (hv.ext hx0) hl HR.out h0 (by omega)).mono ?_
  rintro e w1 ⟨r, rfl, g1, g2, g3, rfl⟩
  have G3 := Lib.hid g3
  clear g3
  by_cases hr : r < 0
  · go_wp2
    go_ret
    exact ⟨-1, rfl, by omega, by omega, by omega, hx0⟩
  · go_wp2_with fail
    refine (szInt64SS_any u _ _ _ (hy.ext hx0) hl' HR'.out (by omega) (by omega)).mono ?_
    rintro e w2 ⟨q, rfl, p1, p2, p3, rfl⟩
    have P3 := Lib.hid p3
    clear p3
    by_cases hq : q < 0
    · go_wp2
      go_ret
      exact ⟨-1, rfl, by omega, by omega, by omega, hx0⟩
    · go_wp2
      go_ret
      exact ⟨q, rfl, by omega, by omega, fun h => ⟨G3.out (by omega), P3.out h⟩, hx0⟩

theorem toBrace_new (t u : List (List Int)) (v y : Value) (w : World) (hv : RowsR w v t) (hy : RowsR w y u) (hs : Small t) (hs' : Small u) :
    Calls Try.prog 17 #[.agg #[v, y]] w fun e w' => ∃ v y, e = .returned (.agg #[v, y]) ∧ OwnB w.heap.size w'.heap.size w' v y t u ∧ Rows w' v t ∧ Rows w' y u ∧ Ext w w' := by
  obtain ⟨a1, c1, rfl, -⟩ := id hv
  obtain ⟨a2, c2, rfl, -⟩ := id hy
  have hx0 : Ext w (((w.alloc (.cells #[.slice a1 t.length c1, .slice a2 u.length c2] 24)).alloc (.cells #[.slice none 0 0, .slice none 0 0] 29)).alloc (.cells #[.slice none 0 0, .slice none 0 0] 29)) := (((Ext.refl _).alloc _).alloc _).alloc _
  have z0 : w.heap.size + 3 = (((w.alloc (.cells #[.slice a1 t.length c1, .slice a2 u.length c2] 24)).alloc (.cells #[.slice none 0 0, .slice none 0 0] 29)).alloc (.cells #[.slice none 0 0, .slice none 0 0] 29)).heap.size := by simp
  have b1 : (((w.alloc (.cells #[.slice a1 t.length c1, .slice a2 u.length c2] 24)).alloc (.cells #[.slice none 0 0, .slice none 0 0] 29)).alloc (.cells #[.slice none 0 0, .slice none 0 0] 29)).cell? ⟨w.heap.size, 1, none⟩ = some (.slice a2 u.length c2) := by simp [go_sem]
  have m0 : (((w.alloc (.cells #[.slice a1 t.length c1, .slice a2 u.length c2] 24)).alloc (.cells #[.slice none 0 0, .slice none 0 0] 29)).alloc (.cells #[.slice none 0 0, .slice none 0 0] 29)).cell? ⟨w.heap.size + 1, 0, none⟩ = some (.slice none 0 0) := by simp [go_sem]
  have m1 : (((w.alloc (.cells #[.slice a1 t.length c1, .slice a2 u.length c2] 24)).alloc (.cells #[.slice none 0 0, .slice none 0 0] 29)).alloc (.cells #[.slice none 0 0, .slice none 0 0] 29)).cell? ⟨w.heap.size + 1, 1, none⟩ = some (.slice none 0 0) := by simp [go_sem]
  have q0 : (((w.alloc (.cells #[.slice a1 t.length c1, .slice a2 u.length c2] 24)).alloc (.cells #[.slice none 0 0, .slice none 0 0] 29)).alloc (.cells #[.slice none 0 0, .slice none 0 0] 29)).frozen? ⟨w.heap.size + 1, 0, none⟩ = false := by simp [go_sem]
  have q1 : (((w.alloc (.cells #[.slice a1 t.length c1, .slice a2 u.length c2] 24)).alloc (.cells #[.slice none 0 0, .slice none 0 0] 29)).alloc (.cells #[.slice none 0 0, .slice none 0 0] 29)).frozen? ⟨w.heap.size + 1, 1, none⟩ = false := by simp [go_sem]
  have n0 : (((w.alloc (.cells #[.slice a1 t.length c1, .slice a2 u.length c2] 24)).alloc (.cells #[.slice none 0 0, .slice none 0 0] 29)).alloc (.cells #[.slice none 0 0, .slice none 0 0] 29)).cell? ⟨w.heap.size + 1 + 1, 0, none⟩ = some (.slice none 0 0) := by simp [go_sem]
  have n1 : (((w.alloc (.cells #[.slice a1 t.length c1, .slice a2 u.length c2] 24)).alloc (.cells #[.slice none 0 0, .slice none 0 0] 29)).alloc (.cells #[.slice none 0 0, .slice none 0 0] 29)).cell? ⟨w.heap.size + 1 + 1, 1, none⟩ = some (.slice none 0 0) := by simp [go_sem]
  have p0 : (((w.alloc (.cells #[.slice a1 t.length c1, .slice a2 u.length c2] 24)).alloc (.cells #[.slice none 0 0, .slice none 0 0] 29)).alloc (.cells #[.slice none 0 0, .slice none 0 0] 29)).frozen? ⟨w.heap.size + 1 + 1, 0, none⟩ = false := by simp [go_sem]
  have p1 : (((w.alloc (.cells #[.slice a1 t.length c1, .slice a2 u.length c2] 24)).alloc (.cells #[.slice none 0 0, .slice none 0 0] 29)).alloc (.cells #[.slice none 0 0, .slice none 0 0] 29)).frozen? ⟨w.heap.size + 1 + 1, 1, none⟩ = false := by simp [go_sem]
  go_enter Try.func17, Try.ntmps17
  go_wp2_with fail
  generalize (((w.alloc (.cells #[.slice a1 t.length c1, .slice a2 u.length c2] 24)).alloc (.cells #[.slice none 0 0, .slice none 0 0] 29)).alloc (.cells #[.slice none 0 0, .slice none 0 0] 29)) = A at *
  refine (toInt64SS_any t _ _ (hv.ext hx0) hs).mono ?_
  rintro e w1 ⟨b, c, rfl, ho, hx1⟩
  have hX1 := hx0.trans hx1
  have zz1 := hx1.size
  replace b1 := hx1.cell b1
  replace m0 := hx1.cell m0
  replace m1 := hx1.cell m1
  replace n0 := hx1.cell n0
  replace n1 := hx1.cell n1
  replace q0 := hx1.free q0 (by simp only []; omega)
  replace q1 := hx1.free q1 (by simp only []; omega)
  replace p0 := hx1.free p0 (by simp only []; omega)
  replace p1 := hx1.free p1 (by simp only []; omega)
  have hxs : Ext w (w1.setCell ⟨w.heap.size + 1 + 1, 0, none⟩ (.slice (some ⟨b, 0, none⟩) t.length c)) := hX1.setNew (by simp only []; omega) _
  have hos := ho.setOther (a := ⟨w.heap.size + 1 + 1, 0, none⟩) (.inl (by simp only []; omega)) (.slice (some ⟨b, 0, none⟩) t.length c)
  have hzs : (w1.setCell ⟨w.heap.size + 1 + 1, 0, none⟩ (.slice (some ⟨b, 0, none⟩) t.length c)).heap.size = w1.heap.size := by simp
  have s0 := World.cell?_setCell_same w1 ⟨w.heap.size + 1 + 1, 0, none⟩ (.slice (some ⟨b, 0, none⟩) t.length c) n0
  have s1 : (w1.setCell ⟨w.heap.size + 1 + 1, 0, none⟩ (.slice (some ⟨b, 0, none⟩) t.length c)).cell? ⟨w.heap.size + 1 + 1, 1, none⟩ = some (.slice none 0 0) := by rw [World.cell?_setCell_other _ _ _ _ (by simp)]; exact n1
  have s2 : (w1.setCell ⟨w.heap.size + 1 + 1, 0, none⟩ (.slice (some ⟨b, 0, none⟩) t.length c)).cell? ⟨w.heap.size, 1, none⟩ = some (.slice a2 u.length c2) := by rw [World.cell?_setCell_other _ _ _ _ (by simp)]; exact b1
  have s3 : (w1.setCell ⟨w.heap.size + 1 + 1, 0, none⟩ (.slice (some ⟨b, 0, none⟩) t.length c)).cell? ⟨w.heap.size + 1, 0, none⟩ = some (.slice none 0 0) := by rw [World.cell?_setCell_other _ _ _ _ (by simp)]; exact m0
  have s4 : (w1.setCell ⟨w.heap.size + 1 + 1, 0, none⟩ (.slice (some ⟨b, 0, none⟩) t.length c)).cell? ⟨w.heap.size + 1, 1, none⟩ = some (.slice none 0 0) := by rw [World.cell?_setCell_other _ _ _ _ (by simp)]; exact m1
  have s5 : (w1.setCell ⟨w.heap.size + 1 + 1, 0, none⟩ (.slice (some ⟨b, 0, none⟩) t.length c)).frozen? ⟨w.heap.size + 1 + 1, 1, none⟩ = false := by rw [World.frozen?_setCell]; exact p1
  have s6 : (w1.setCell ⟨w.heap.size + 1 + 1, 0, none⟩ (.slice (some ⟨b, 0, none⟩) t.length c)).frozen? ⟨w.heap.size + 1, 0, none⟩ = false := by rw [World.frozen?_setCell]; exact q0
  have s7 : (w1.setCell ⟨w.heap.size + 1 + 1, 0, none⟩ (.slice (some ⟨b, 0, none⟩) t.length c)).frozen? ⟨w.heap.size + 1, 1, none⟩ = false := by rw [World.frozen?_setCell]; exact q1
  clear b1 m0 m1 q0 q1 n1 p1 ho
  go_wp2_with fail
  generalize w1.setCell ⟨w.heap.size + 1 + 1, 0, none⟩ (.slice (some ⟨b, 0, none⟩) t.length c) = W2 at *
  refine (toInt64SS_any u _ _ (hy.ext hxs) hs').mono ?_
  rintro e w3 ⟨b3, c3, rfl, ho3, hx3⟩
  have zz3 := hx3.size
  replace s0 := hx3.cell s0
  replace s1 := hx3.cell s1
  replace s3 := hx3.cell s3
  replace s4 := hx3.cell s4
  replace s5 := hx3.free s5 (by simp only []; omega)
  replace s6 := hx3.free s6 (by simp only []; omega)
  replace s7 := hx3.free s7 (by simp only []; omega)
  have k1 : OwnV A.heap.size w1.heap.size w3 (.slice (some ⟨b, 0, none⟩) t.length c) t := OwnV.ext (hos.v hs c) hx3 (by omega)
  have k3 : OwnV w1.heap.size w3.heap.size w3 (.slice (some ⟨b3, 0, none⟩) u.length c3) u := (ho3.v hs' c3).mono (by omega) (Nat.le_refl _)
  go_wp2
  have key : ∀ W : World, W.heap.size = w3.heap.size → (∀ k, A.heap.size ≤ k → W.heap[k]? = w3.heap[k]?) → OwnB w.heap.size W.heap.size W (.slice (some ⟨b, 0, none⟩) t.length c) (.slice (some ⟨b3, 0, none⟩) u.length c3) t u ∧ Rows W (.slice (some ⟨b, 0, none⟩) t.length c) t ∧ Rows W (.slice (some ⟨b3, 0, none⟩) u.length c3) u := by
    intro W hW hk
    have j1 := k1.keep (w' := W) fun k q1 _ => hk k q1
    have j3 := k3.keep (w' := W) fun k q1 _ => hk k (by omega)
    have r1 := (hos.keep (w' := W) fun k q1 q2 => (hk k q1).trans (hx3.block k (by omega))).rowsAt hs
    have r3 := (ho3.keep (w' := W) fun k q1 q2 => hk k (by omega)).rowsAt hs'
    exact ⟨⟨A.heap.size, w1.heap.size, w1.heap.size, w3.heap.size, by omega, by omega, by omega, by omega, by omega, j1, j3⟩, r1.rows hs.1 c, r3.rows hs'.1 c3⟩
  refine bodyPost_ret (v := .agg #[.slice (some ⟨b, 0, none⟩) t.length c, .slice (some ⟨b3, 0, none⟩) u.length c3]) (by simp [results, Try.results17, go_sem, s3, s4]) rfl ⟨_, _, rfl, ?_⟩
  obtain ⟨e1, e2, e3⟩ := key (((w3.setCell ⟨w.heap.size + 1 + 1, 1, none⟩ (.slice (some ⟨b3, 0, none⟩) u.length c3)).setCell ⟨w.heap.size + 1, 0, none⟩ (.slice (some ⟨b, 0, none⟩) t.length c)).setCell ⟨w.heap.size + 1, 1, none⟩ (.slice (some ⟨b3, 0, none⟩) u.length c3)) (by simp) (fun k hk => by
    rw [Below.heap_setCell _ _ _ _ (by simp only []; omega), Below.heap_setCell _ _ _ _ (by simp only []; omega), Below.heap_setCell _ _ _ _ (by simp only []; omega)])
  exact ⟨e1, e2, e3, (((hxs.trans hx3).setNew (by simp only []; omega) _).setNew (by simp only []; omega) _).setNew (by simp only []; omega) _⟩

theorem rows_set2 {w : World} {v : Value} {t : List (List Int)} (h : Rows w v t) {B : Nat} (h0 : w.cell? ⟨B, 0, none⟩ = some (.slice none 0 0)) (h1 : w.cell? ⟨B, 1, none⟩ = some (.slice none 0 0)) (p q : Value) :
    Rows ((w.setCell ⟨B, 0, none⟩ p).setCell ⟨B, 1, none⟩ q) v t :=
  (h.setNil h0 p).setNil (by rw [World.cell?_setCell_other _ _ _ _ (by simp)]; exact h1) q
theorem OwnV.set2 {lo hi : Nat} {w : World} {v : Value} {t : List (List Int)} (h : OwnV lo hi w v t) {B : Nat} (hB : B < lo) (p q : Value) :
    OwnV lo hi ((w.setCell ⟨B, 0, none⟩ p).setCell ⟨B, 1, none⟩ q) v t :=
  h.keep fun k h1 h2 => by rw [Below.heap_setCell _ _ _ _ (by simp only []; omega), Below.heap_setCell _ _ _ _ (by simp only []; omega)]
end Go.Proofs.Ytjcpeenalbgacaa
