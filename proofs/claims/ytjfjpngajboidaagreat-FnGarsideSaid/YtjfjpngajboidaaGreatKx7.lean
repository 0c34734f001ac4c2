/-
  Contracts of IsNormalIn: reference and program.
-/
import Derived.Deep.RegionHeld3
import Derived.Deep.DrawnRows
import Derived.Test.YtjfjpngajboidaaGreatKx6
import Derived.Test.YtjfjpngajboidaaGreatKx4
namespace Go.Proofs.YtjfjpngajboidaaGreat
set_option linter.unusedVariables false
set_option linter.unusedSimpArgs false
open Go.RowKit
attribute [local go_sem ↓] Go.wp_at_zero Go.wp_at_succ

end Go.Proofs.YtjfjpngajboidaaGreat


namespace Go.Proofs.YtjfjpngajboidaaGreat
set_option linter.unusedVariables false
set_option linter.unusedSimpArgs false
open Go.RowKit
attribute [local go_sem ↓] Go.wp_at_zero Go.wp_at_succ

@[irreducible] def idL (n : Nat) : List Int := mkL n (fun i => (i : Int))
theorem length_idL (n : Nat) : (idL n).length = n := by unfold idL; exact length_mkL _ _
theorem ix_idL (n i : Nat) (h : i < n) : ix (idL n) i = (i : Int) := by unfold idL; exact ix_mkL _ _ _ h

end Go.Proofs.YtjfjpngajboidaaGreat


namespace Go.Proofs.YtjfjpngajboidaaGreat
set_option linter.unusedVariables false
set_option linter.unusedSimpArgs false

@[irreducible] def thenL (p q : List Int) : List Int := mkL p.length (fun i => ix q (ix p i).toNat)
theorem length_thenL (p q : List Int) : (thenL p q).length = p.length := by unfold thenL; exact length_mkL _ _
theorem ix_thenL (p q : List Int) {i : Nat} (h : i < p.length) : ix (thenL p q) i = ix q (ix p i).toNat := by unfold thenL; exact ix_mkL _ _ _ h
theorem thenL_perm {n : Nat} {p q : List Int} (hp : IsoOk n [] [] p) (hq : IsoOk n [] [] q) : IsoOk n [] [] (thenL p q) := by
  have hl := hp.1
  refine isoOk_plain.2 ⟨by rw [length_thenL, hl], ⟨fun i hi => ?_, fun i hi j hj e => ?_⟩⟩
  · rw [length_thenL] at hi ⊢
    rw [ix_thenL _ _ hi]
    have := hp.bd (x := i) (by omega)
    have := hq.bd this.2
    omega
  · rw [length_thenL] at hi
    rw [ix_thenL _ _ hi, ix_thenL _ _ (by omega)] at e
    have b1 := hp.bd (x := i) (by omega)
    have b2 := hp.bd (x := j) (by omega)
    have := hq.inj b2.2 b1.2 e
    have := hp.inj (x := j) (y := i) (by omega) (by omega) (by omega)
    omega

theorem idL_perm (n : Nat) : IsoOk n [] [] (idL n) := by
  refine isoOk_plain.2 ⟨length_idL n, ⟨fun i hi => ?_, fun i hi j hj e => ?_⟩⟩
  · rw [length_idL] at hi ⊢
    rw [ix_idL _ _ hi]; omega
  · rw [length_idL] at hi
    rw [ix_idL _ _ hi, ix_idL _ _ (by omega)] at e
    omega
@[irreducible] def addL (out : List (List Int)) (p : List Int) : List (List Int) := if out.length ≤ 12 ∧ p ∉ out then out ++ [p] else out
structure GoodG (n : Nat) (out : List (List Int)) : Prop where
  nodup : out.Nodup
  perm : ∀ p, p ∈ out → IsoOk n [] [] p
  one : 1 ≤ out.length
  few : out.length ≤ 13
theorem GoodG.add {n : Nat} {out : List (List Int)} {p : List Int} (h : GoodG n out) (hp : IsoOk n [] [] p) : GoodG n (addL out p) := by
  unfold addL
  split
  · rename_i hc
    refine ⟨?_, fun q hq => ?_, by simp, by simp; omega⟩
    · rw [List.nodup_append]
      refine ⟨h.nodup, by simp, fun a ha b hb e => ?_⟩
      have : b = p := by simpa using hb
      exact hc.2 (by rw [← this, ← e]; exact ha)
    · rcases List.mem_append.1 hq with hq | hq
      · exact h.perm q hq
      · have : q = p := by simpa using hq
        rw [this]; exact hp
  · exact h
theorem GoodG.row {n : Nat} {out : List (List Int)} (h : GoodG n out) {i : Nat} (hi : i < out.length) : IsoOk n [] [] (row out i) := h.perm _ (by rw [row_eq]; simp [List.getD, hi])
theorem GoodG.pos {n : Nat} {out : List (List Int)} (h : GoodG n out) (h1 : 1 ≤ n) : ∀ i, i < out.length → 0 < (Go.Proofs.YtjfjpngajboidaaGreat.row out i).length := fun i hi => by rw [(h.row hi).1]; omega

theorem rowG_mem {S : List (List Int)} {i : Nat} (h : i < S.length) : row S i ∈ S := by rw [row_eq]; simp [List.getD, h]
theorem mem_row {S : List (List Int)} {p : List Int} (h : p ∈ S) : ∃ i, i < S.length ∧ row S i = p := by
  obtain ⟨i, hi, e⟩ := List.getElem_of_mem h
  exact ⟨i, hi, by rw [row_eq]; simp [List.getD, hi, e]⟩
theorem sorted_row {S : List (List Int)} (h : S.Pairwise (· < ·)) {i j : Nat} (hij : i < j) (hj : j < S.length) : row S i < row S j := by
  have := (List.pairwise_iff_getElem.1 h) i j (by omega) hj hij
  rw [row_eq, row_eq]; simpa [List.getD, hj, show i < S.length by omega] using this
theorem put_sorted {S : List (List Int)} {p : List Int} {k : Nat} (h : S.Pairwise (· < ·)) (hk : k ≤ S.length) (h1 : ∀ i, i < k → row S i < p) (h2 : ∀ i, k ≤ i → i < S.length → ¬ row S i < p) (hp : p ∉ S) : (S.take k ++ ([p] ++ S.drop k)).Pairwise (· < ·) := by
  rw [List.pairwise_append]
  refine ⟨h.take, ?_, fun a ha b hb => ?_⟩
  · rw [List.singleton_append, List.pairwise_cons]
    refine ⟨fun b hb => ?_, h.drop⟩
    obtain ⟨i, hi, e⟩ := List.getElem_of_mem hb
    rw [List.length_drop] at hi
    have e2 : row S (k + i) = b := by rw [row_eq]; rw [List.getElem_drop] at e; simp [List.getD, show k + i < S.length by omega, e]
    have hn := h2 (k + i) (by omega) (by omega)
    rw [e2] at hn
    rcases less_tri p b with g | g | g
    · exact g
    · exact absurd (by rw [g, ← e2]; exact rowG_mem (by omega)) hp
    · exact absurd g hn
  · obtain ⟨i, hi, e⟩ := List.getElem_of_mem ha
    rw [List.length_take] at hi
    have e2 : row S i = a := by rw [row_eq]; rw [List.getElem_take] at e; simp [List.getD, show i < S.length by omega, e]
    have hap := h1 i (by omega)
    rw [e2] at hap
    rw [List.singleton_append] at hb
    rcases List.mem_cons.1 hb with rfl | hb
    · exact hap
    · obtain ⟨j, hj, e3⟩ := List.getElem_of_mem hb
      rw [List.length_drop] at hj
      have e4 : row S (k + j) = b := by rw [row_eq]; rw [List.getElem_drop] at e3; simp [List.getD, show k + j < S.length by omega, e3]
      rw [← e2, ← e4]
      exact sorted_row h (by omega) (by omega)
theorem put_known {S : List (List Int)} {p : List Int} {k : Nat} (h : S.Pairwise (· < ·)) (h1 : ∀ i, i < k → row S i < p) (h2 : ∀ i, k ≤ i → i < S.length → ¬ row S i < p) : (k < S.length ∧ row S k = p) ↔ p ∈ S := by
  constructor
  · rintro ⟨hk, e⟩; rw [← e]; exact rowG_mem hk
  · intro hp
    obtain ⟨j, hj, e⟩ := mem_row hp
    have hkj : k ≤ j := by
      apply Classical.byContradiction
      intro hn
      have := h1 j (by omega)
      rw [e] at this
      exact less_irrefl p this
    have hjk : ¬ k < j := fun hlt => by
      have := sorted_row h hlt hj
      rw [e] at this
      exact h2 k (Nat.le_refl _) (by omega) this
    have : k = j := by omega
    subst this
    exact ⟨hj, e⟩
def findL (S : List (List Int)) (p : List Int) : Int := findIx (fun r => eqIB r p) S
theorem findL_eq (S : List (List Int)) (p : List Int) : findIx (fun r => eqIB r p) S = findL S p := rfl
theorem anyB_mem (S : List (List Int)) (p : List Int) : anyB (fun r => eqIB r p) S = decide (p ∈ S) := by
  unfold anyB
  rw [Bool.eq_iff_iff, List.any_eq_true, decide_eq_true_iff]
  constructor
  · rintro ⟨x, h1, h2⟩; rw [← eqIB_iff.1 h2]; exact h1
  · intro h; exact ⟨p, h, eqIB_yes rfl⟩
end Go.Proofs.YtjfjpngajboidaaGreat


namespace Go.Proofs.YtjfjpngajboidaaGreat
set_option linter.unusedVariables false
set_option linter.unusedSimpArgs false

theorem memI_ix {l : List Int} {x : Int} (h : x ∈ l) : ∃ i, i < l.length ∧ ix l i = x := by
  obtain ⟨i, hi, e⟩ := List.mem_iff_getElem.1 h
  exact ⟨i, hi, by rw [ix_eq, List.getD_eq_getElem?_getD, List.getElem?_eq_getElem hi]; exact e⟩
theorem ixI_mem {l : List Int} {i : Nat} (h : i < l.length) : ix l i ∈ l := by
  rw [ix_eq, List.getD_eq_getElem?_getD, List.getElem?_eq_getElem h]; exact List.getElem_mem h
theorem permOk_mem {l : List Int} : PermOk l ↔ ∀ y : Nat, y < l.length → (y : Int) ∈ l := by
  rw [permOk_iff_has]
  constructor
  · intro h y hy
    have := h y hy
    rcases indexOf_spec l y with ⟨e, hn⟩ | ⟨i, hi, e, hx, _⟩
    · omega
    · rw [← hx]; exact ixI_mem hi
  · intro h y hy
    rcases indexOf_spec l y with ⟨e, hn⟩ | ⟨i, hi, e, _⟩
    · obtain ⟨i, hi, e2⟩ := memI_ix (h y hy)
      exact absurd e2 (hn i hi)
    · omega
theorem swap_perm {l : List Int} {i j : Nat} (hi : i < l.length) (hj : j < l.length) : ((l.set i (ix l j)).set j (ix l i)).Perm l := by
  have e1 : ix l i = l[i] := by rw [ix_eq, List.getD_eq_getElem?_getD, List.getElem?_eq_getElem hi]; rfl
  have e2 : ix l j = l[j] := by rw [ix_eq, List.getD_eq_getElem?_getD, List.getElem?_eq_getElem hj]; rfl
  rw [e1, e2]
  exact List.set_set_perm hi hj
theorem permOk_swap {l : List Int} (h : PermOk l) {i j : Nat} (hi : i < l.length) (hj : j < l.length) : PermOk ((l.set i (ix l j)).set j (ix l i)) := by
  have hp := swap_perm hi hj
  rw [permOk_mem] at h ⊢
  intro y hy
  rw [hp.length_eq] at hy
  exact hp.mem_iff.2 (h y hy)
end Go.Proofs.YtjfjpngajboidaaGreat


namespace Go.Proofs.YtjfjpngajboidaaGreat
set_option linter.unusedVariables false
set_option linter.unusedSimpArgs false
open Go.RowKit

def XS (w : World) (xs : List Value) (s : List (List Int)) : Prop := xs.length = s.length ∧ ∀ i, i < s.length → ∃ x, xs[i]? = some x ∧ Ints w x (row s i)
theorem XS.nil (w : World) : XS w [] [] := ⟨rfl, fun i hi => by simp at hi⟩
theorem XS.one {w : World} {x : Value} {l : List Int} (h : Ints w x l) : XS w [x] [l] := ⟨rfl, fun i hi => by
  have : i = 0 := by simpa using hi
  subst this
  exact ⟨x, rfl, by rw [row_eq]; exact h⟩⟩
theorem XS.ext {w w' : World} {xs : List Value} {s : List (List Int)} (h : XS w xs s) (hx : Ext w w') : XS w' xs s := ⟨h.1, fun i hi => by
  obtain ⟨x, h1, h2⟩ := h.2 i hi
  exact ⟨x, h1, h2.ext hx⟩⟩
theorem XS.append {w : World} {xs ys : List Value} {s t : List (List Int)} (h : XS w xs s) (k : XS w ys t) : XS w (xs ++ ys) (s ++ t) := by
  refine ⟨by simp [h.1, k.1], fun i hi => ?_⟩
  by_cases hs : i < s.length
  · obtain ⟨x, h1, h2⟩ := h.2 i hs
    refine ⟨x, by rw [List.getElem?_append_left (by rw [h.1]; exact hs)]; exact h1, ?_⟩
    rw [row_eq]
    rw [row_eq] at h2
    simpa [List.getD, List.getElem?_append_left hs] using h2
  · have hl : i - s.length < t.length := by simp at hi; omega
    obtain ⟨x, h1, h2⟩ := k.2 (i - s.length) hl
    refine ⟨x, by rw [List.getElem?_append_right (by rw [h.1]; omega), h.1]; exact h1, ?_⟩
    rw [row_eq]
    rw [row_eq] at h2
    simpa [List.getD, List.getElem?_append_right (Nat.le_of_not_lt hs)] using h2
theorem XS.take {w : World} {xs : List Value} {s : List (List Int)} (h : XS w xs s) (k : Nat) : XS w (xs.take k) (s.take k) := by
  refine ⟨by simp [h.1], fun i hi => ?_⟩
  have hi' : i < k ∧ i < s.length := by rw [List.length_take] at hi; omega
  obtain ⟨x, h1, h2⟩ := h.2 i hi'.2
  refine ⟨x, by rw [List.getElem?_take, if_pos hi'.1]; exact h1, ?_⟩
  rw [row_eq]
  rw [row_eq] at h2
  simpa [List.getD, List.getElem?_take, hi'.1] using h2
theorem XS.drop {w : World} {xs : List Value} {s : List (List Int)} (h : XS w xs s) (k : Nat) : XS w (xs.drop k) (s.drop k) := by
  refine ⟨by simp [h.1], fun i hi => ?_⟩
  have hi' : k + i < s.length := by rw [List.length_drop] at hi; omega
  obtain ⟨x, h1, h2⟩ := h.2 (k + i) hi'
  refine ⟨x, by rw [List.getElem?_drop]; exact h1, ?_⟩
  rw [row_eq]
  rw [row_eq] at h2
  simpa [List.getD, List.getElem?_drop] using h2
theorem XS.cell {w : World} {xs : List Value} {s : List (List Int)} (h : XS w xs s) : ∀ u ∈ xs, u.oneCell' = true := by
  intro u hu
  obtain ⟨i, hi, rfl⟩ := List.mem_iff_getElem.1 hu
  obtain ⟨x, h1, _, b, o, c, rfl, _⟩ := h.2 i (by rw [← h.1]; exact hi)
  rw [List.getElem?_eq_getElem hi] at h1
  have h1 := Option.some.inj h1
  rw [h1]; rfl
def GrowX (e base : Nat) (w : World) (v : Value) (s : List (List Int)) : Prop := ∃ xs, w.ownsRow base e 1 v s.length xs ∧ XS w xs s
theorem GrowX.ext {e base : Nat} {w w' : World} {v : Value} {s : List (List Int)} (h : GrowX e base w v s) (hx : Ext w w') : GrowX e base w' v s := by
  obtain ⟨xs, h1, h2⟩ := h
  exact ⟨xs, ownsRow_ext h1 hx, h2.ext hx⟩
theorem GrowX.lit {e base : Nat} {w : World} (hb : base ≤ w.heap.size) : GrowX e base (w.alloc (.cells #[] e)) (.slice (some ⟨w.heap.size, 0, none⟩) 0 0) [] :=
  ⟨[], World.ownsRow_made w #[] 0 hb (Nat.zero_le _) rfl, XS.nil _⟩
theorem ownsRow_one {e base : Nat} {w : World} {x : Value} (hb : base ≤ w.heap.size) : (w.alloc (.cells #[x] e)).ownsRow base e 1 (.slice (some ⟨w.heap.size, 0, none⟩) 1 1) 1 [x] :=
  ⟨rfl, .inr ⟨w.heap.size, 1, #[x], rfl, hb, heap_alloc_new w _, Nat.le_refl _, by unfold maxLen; omega, rfl, rfl⟩⟩
theorem GrowX.parts {e base : Nat} {w : World} {v : Value} {s : List (List Int)} (h : GrowX e base w v s) (hv : v ≠ .slice none 0 0) :
    ∃ g cap xs, v = .slice (some ⟨g, 0, none⟩) s.length cap ∧ s.length ≤ cap ∧ base ≤ g ∧ g < w.heap.size ∧ XS w xs s ∧ (∀ i x, xs[i]? = some x → w.cell? ⟨g, i, none⟩ = some x) ∧ w.ownsRow base e 1 v s.length xs := by
  obtain ⟨xs, h1, h2⟩ := h
  rcases id h1.2 with ⟨rfl, _⟩ | ⟨g, cap, cur, rfl, hb, hg, hnc, _⟩
  · exact absurd rfl hv
  · refine ⟨g, cap, xs, rfl, hnc, hb, (h1.lt g rfl).2, h2, fun i x hi => ?_, h1⟩
    have := h1.cells (g := g) rfl i x hi
    rwa [Addr.add_lit, Nat.zero_add] at this
theorem GrowX.rows {e base : Nat} {w : World} {v : Value} {s : List (List Int)} (h : GrowX e base w v s) (hv : v ≠ .slice none 0 0) (hl : s.length ≤ 1048576) : Rows w v s := by
  obtain ⟨g, cap, xs, rfl, _, _, _, h2, h3, _⟩ := h.parts hv
  refine ⟨hl, g, 0, cap, rfl, fun i hi => ?_⟩
  obtain ⟨x, k1, k2⟩ := h2.2 i hi
  exact ⟨x, by rw [Nat.zero_add]; exact h3 i x k1, k2⟩

end Go.Proofs.YtjfjpngajboidaaGreat
